/- Walks over l15Search of the reference: the words that are reached, in order, with what is known of each. -/
import Derived.Test.YtidmbeeadbedaaaSearchP
import Derived.Deep.AppendLies
namespace Go.Proofs.Ytidmbeeadbedaaa
open Go.RowKit Go.Shelf

/-- A row of the call's own in block g. -/
def OwnG (w : World) (g base : Nat) (t : TypeId) (m n : Nat) (xs : List Value) (c : Nat) : Prop := w.ownsRow base t m (.slice (some ⟨g, 0, none⟩) n c) n xs ∧ g < w.heap.size
theorem OwnG.grown {w w' : World} {g base : Nat} {t : TypeId} {m n : Nat} {xs : List Value} {c : Nat} (h : OwnG w g base t m n xs c) {row : Nat} (hg : w.grownBy w' (some row)) (hne : g ≠ row) : OwnG w' g base t m n xs c :=
  ⟨h.1.kept hg (.inr (by simp [Value.ownBlock]; exact hne)), Nat.lt_of_lt_of_le h.2 hg.size⟩
theorem OwnG.below {w w' : World} {g base : Nat} {t : TypeId} {m n : Nat} {xs : List Value} {c : Nat} (h : OwnG w g base t m n xs c) (hb : Below w.heap.size w w') : OwnG w' g base t m n xs c :=
  ⟨own_keep h.1 hb (Nat.le_refl _), Nat.lt_of_lt_of_le h.2 hb.size⟩
theorem OwnG.rd {w : World} {g base : Nat} {t : TypeId} {m n : Nat} {xs : List Value} {c : Nat} (h : OwnG w g base t m n xs c) : Rd w (some ⟨g, 0, none⟩) xs := Rd.of_own h.1
theorem OwnG.new (w : World) (t : TypeId) (cs : Array Value) (base n m : Nat) (hb : base ≤ w.heap.size) (hs : cs.size = n * m) (hm : n ≤ maxLen) : OwnG (w.alloc (.cells cs t)) w.heap.size base t m n cs.toList n :=
  ⟨own_of_bk (Bk.new w t cs) hb hs hm, by simp⟩
theorem Rd.grownG {w w' : World} {g : Nat} {xs : List Value} (h : Rd w (some ⟨g, 0, none⟩) xs) {row : Nat} (hg : w.grownBy w' (some row)) (hne : g ≠ row) : Rd w' (some ⟨g, 0, none⟩) xs := h.grown hg (by
  intro a ha e
  injection ha with ha
  subst ha
  injection e with e
  exact hne e.symm)
theorem Bk.grownG {w w' : World} {g : Nat} {t : TypeId} {cs : Array Value} (h : Bk w g t cs) {row : Nat} (hg : w.grownBy w' (some row)) (hne : g ≠ row) : Bk w' g t cs := h.grown hg (by
  intro e
  injection e with e
  exact hne e)

/-- append of one element that lies in the newest block, onto a row of the call's own: where it lies afterwards, and that all else stays. -/
theorem wpList_app4 {P : Program} {ops : Array Oper} {rest : List Oper} {o : Oper} {a : Act} {Q : Exit → Act → World → Prop} (w w0 : World) (hgd : o.guard = none) (s x : Operand) (t : TypeId)
    (ho : o.op = .call { callee := .builtin .append, args := #[s, x], argTypes := #[t, t] }) (base e size bytes : Nat) (z : Value) (ht : P.underlying t = some (.slice e))
    (hinfo : (P.info? e).map (fun i => (i.zero, i.size, i.bytes)) = some (some z, size, bytes)) (hzs : z.cells.size = size) (hsz : 0 < size) (g n c : Nat) (xs : List Value) (cs : Array Value)
    (hw : w = w0.alloc (.cells cs e)) (hs : a.eval s = .slice (some ⟨g, 0, none⟩) n c) (hx : a.eval x = .slice (some ⟨w0.heap.size, 0, none⟩) 1 1) (hown : OwnG w0 g base e size n xs c) (hcs : cs.size = size) (h1 : ∀ u ∈ cs.toList, u.oneCell' = true)
    (hn : (n + 1) * bytes ≤ 140737488355328) (hm : n + 1 ≤ maxLen) (hbase : base ≤ w0.heap.size)
    (h : ∀ g' c' w', OwnG w' g' base e size (n + 1) (xs ++ cs.toList) c' → w0.grownBy w' (some g) → (g' = g ∨ w0.heap.size ≤ g') → wpList P ops Q rest (a.put o.dst (.slice (some ⟨g', 0, none⟩) (n + 1) c')) w') :
    wpList P ops Q (o :: rest) a w := by
  subst hw
  obtain ⟨i0, hi, hz0, hz1, hz2⟩ := info_parts hinfo
  refine wpList_append_lies _ hgd s x t ho base e i0 z size bytes ht hi hz0 hz1 hz2 hzs hsz _ n xs hs (hown.1.alloc _) ⟨w0.heap.size, 0, none⟩ 1 1 cs.toList hx (by simpa using hcs) ?_ h1 (by omega) hm hn (by simp; omega) _ rfl ?_
  · intro j u hu
    have e' : (⟨w0.heap.size, 0, none⟩ : Addr).add j = ⟨w0.heap.size, j, none⟩ := by unfold Addr.add; split <;> simp_all
    rw [e', (Bk.new w0 e cs).cell j]
    simpa using hu
  · intro g' c' w' hown' hgrow hat hlt
    have hgb : w0.grownBy w' (some g) := (World.grownBy_alloc w0 _ (some g)).trans (by simpa [Value.ownBlock] using hgrow)
    refine h g' c' w' ⟨hown', hlt⟩ hgb ?_
    rcases hat with hat | hat
    · left
      simp [Value.ownBlock] at hat
      exact hat.symm
    · right
      rw [hat]; simp

theorem OwnG.cast {w : World} {g g' base : Nat} {t : TypeId} {m n : Nat} {xs : List Value} {c : Nat} (h : OwnG w g base t m n xs c) (e : g = g') : OwnG w g' base t m n xs c := e ▸ h
theorem OwnG.alloc {w : World} {g base : Nat} {t : TypeId} {m n : Nat} {xs : List Value} {c : Nat} (h : OwnG w g base t m n xs c) (o : Obj) : OwnG (w.alloc o) g base t m n xs c := h.below ((Below.refl _ _).alloc (Nat.le_refl _) o)
def Apart5 (b g1 g2 g3 g4 : Nat) : Prop := b < g1 ∧ b < g2 ∧ b < g3 ∧ b < g4 ∧ g1 ≠ g2 ∧ g1 ≠ g3 ∧ g1 ≠ g4 ∧ g2 ≠ g3 ∧ g2 ≠ g4 ∧ g3 ≠ g4
/-- The slice at B lies below the heap's end and in none of the four rows. -/
def ApX (B : Option Addr) (w : World) (g1 g2 g3 g4 : Nat) : Prop := ∀ ad, B = some ad → ad.block < w.heap.size ∧ ad.block ≠ g1 ∧ ad.block ≠ g2 ∧ ad.block ≠ g3 ∧ ad.block ≠ g4
def srFrom (S : List SrT) : List Int := S.map (·.2.1)
def srLinks (S : List SrT) : List LinkT := S.map (·.2.2.1)
def srFar (S : List SrT) : List Int := S.map (·.2.2.2)
/-- What the search leaves: the four rows. -/
def MadeSr (w : World) (S : List SrT) (e : Ending) (w' : World) : Prop :=
  ∃ g1 c1 g2 c2 g3 c3 g4 c4, e = .returned (.tuple #[.slice (some ⟨g1, 0, none⟩) S.length c1, .slice (some ⟨g2, 0, none⟩) S.length c2, .slice (some ⟨g3, 0, none⟩) S.length c3, .slice (some ⟨g4, 0, none⟩) S.length c4]) ∧
    OwnG w' g1 w.heap.size 9 1 S.length (strs (srWords S)) c1 ∧ OwnG w' g2 w.heap.size 3 1 S.length (ints (srFrom S)) c2 ∧ OwnG w' g3 w.heap.size 95 3 S.length (cellsLink (srLinks S)) c3 ∧ OwnG w' g4 w.heap.size 3 1 S.length (ints (srFar S)) c4 ∧ Below w.heap.size w w'
theorem srAt_cell {S : List SrT} {a : Nat} (h : a < S.length) : (strs (srWords S))[a]? = some (.string (srAt S a).1) ∧ (ints (srFar S))[a]? = some (.int .i64 (srAt S a).2.2.2) := by
  unfold srAt
  rw [List.getD_eq_getElem?_getD, List.getElem?_eq_getElem h]
  constructor
  · simp [strs, srWords, h]
  · simp [ints, srFar, h]
theorem OwnG.cell {w : World} {g base : Nat} {t : TypeId} {m n : Nat} {xs : List Value} {c : Nat} (h : OwnG w g base t m n xs c) {j : Nat} {u : Value} (hu : xs[j]? = some u) : w.cell? ⟨g, j, none⟩ = some u := by
  obtain ⟨b, o, e, _, hc⟩ := h.rd (by intro e; rw [e] at hu; cases hu)
  injection e with e
  injection e with e1 e2
  subst e1 e2
  have := hc j u hu
  rwa [Nat.zero_add] at this

set_option maxRecDepth 100000 in
set_option maxHeartbeats 4000000 in
theorem specSearch_any (l : Int) (A : Option Addr) (n c : Nat) (rs : List RuleT) (s : ByteArray) (lim : Int) (w : World) (hr : Rd w A (cellsRule rs)) (hn : n = rs.length) (hb : n ≤ 1048576) (hz : ∀ x ∈ rs, x.1.size ≤ 1048576 ∧ x.2.size ≤ 1048576) (hro : rulesOk l rs = true) (hg8 : good8 l s) (hlim : lim ≤ 8) :
    Calls Try.prog 115 #[.agg #[.int .i64 l, .slice A n c], .string s, .int .i64 lim] w (MadeSr w (srAll rs s lim)) := by
  obtain ⟨w0, hw0⟩ : ∃ w0, w0 = ((((w.alloc (.cells #[.int .i64 l, .slice A n c] 25)).alloc (.cells #[.string s] 9)).alloc (.cells #[.int .i64 (-1)] 3)).alloc (.cells #[.int .i64 0, .int .i64 0, .bool false] 95)).alloc (.cells #[.int .i64 0] 3) := ⟨_, rfl⟩
  have hS0 : Bk w0 w.heap.size 25 #[.int .i64 l, .slice A n c] := by rw [hw0]; exact ((((Bk.new w _ _).alloc _).alloc _).alloc _).alloc _
  have hW0 : Below w.heap.size w w0 := by rw [hw0]; exact (((((Below.refl _ _).alloc (Nat.le_refl _) _).alloc (by simp) _).alloc (by simp; omega) _).alloc (by simp; omega) _).alloc (by simp; omega) _
  have o1 : OwnG w0 (w.heap.size + 1) w.heap.size 9 1 1 (strs (srWords [(s, -1, (0, 0, false), 0)])) 1 := by
    rw [hw0]; exact (((((OwnG.new (w.alloc (.cells #[.int .i64 l, .slice A n c] 25)) 9 #[.string s] w.heap.size 1 1 (by simp) rfl (by unfold maxLen; omega)).alloc _).alloc _).alloc _)).cast (by simp)
  have o2 : OwnG w0 (w.heap.size + 2) w.heap.size 3 1 1 (ints (srFrom [(s, -1, (0, 0, false), 0)])) 1 := by
    rw [hw0]; exact ((((OwnG.new ((w.alloc (.cells #[.int .i64 l, .slice A n c] 25)).alloc (.cells #[.string s] 9)) 3 #[.int .i64 (-1)] w.heap.size 1 1 (by simp; omega) rfl (by unfold maxLen; omega)).alloc _).alloc _)).cast (by simp)
  have o3 : OwnG w0 (w.heap.size + 3) w.heap.size 95 3 1 (cellsLink (srLinks [(s, -1, (0, 0, false), 0)])) 1 := by
    rw [hw0]; exact (((OwnG.new (((w.alloc (.cells #[.int .i64 l, .slice A n c] 25)).alloc (.cells #[.string s] 9)).alloc (.cells #[.int .i64 (-1)] 3)) 95 #[.int .i64 0, .int .i64 0, .bool false] w.heap.size 1 3 (by simp; omega) rfl (by unfold maxLen; omega)).alloc _)).cast (by simp)
  have o4 : OwnG w0 (w.heap.size + 4) w.heap.size 3 1 1 (ints (srFar [(s, -1, (0, 0, false), 0)])) 1 := by
    rw [hw0]; exact (OwnG.new ((((w.alloc (.cells #[.int .i64 l, .slice A n c] 25)).alloc (.cells #[.string s] 9)).alloc (.cells #[.int .i64 (-1)] 3)).alloc (.cells #[.int .i64 0, .int .i64 0, .bool false] 95)) 3 #[.int .i64 0] w.heap.size 1 1 (by simp; omega) rfl (by unfold maxLen; omega)).cast (by simp)
  have hgd : srGood l [(s, -1, (0, 0, false), 0)] := ⟨by simp [srWords], fun t ht => by simp [srWords] at ht; rw [ht]; exact hg8, fun i hi => by
    have : i = 0 := by simp at hi; omega
    subst this
    exact ⟨Int.le_refl _, Int.le_refl _⟩⟩
  have hap : Apart5 w.heap.size (w.heap.size + 1) (w.heap.size + 2) (w.heap.size + 3) (w.heap.size + 4) := by unfold Apart5; omega
  have Hr := Lib.hid hr
  clear hr
  have Hn := Lib.hid hn
  clear hn
  have Hz := Lib.hid hz
  clear hz
  have Hro := Lib.hid hro
  clear hro
  have HS0 := Lib.hid hS0
  clear hS0
  have HW0 := Lib.hid hW0
  clear hW0
  have O1 := Lib.hid o1
  clear o1
  have O2 := Lib.hid o2
  clear o2
  have O3 := Lib.hid o3
  clear o3
  have O4 := Lib.hid o4
  clear o4
  have Hgd := Lib.hid hgd
  clear hgd
  have Hap := Lib.hid hap
  clear hap
  have Hw0 := Lib.hid hw0
  clear hw0
  go_enter Try.func115, Try.ntmps115
  go_wp2_with fail
  (try rw [← Hw0.out])
  go_loopw [10, 11, 12, 13, 14] (fun v1 v2 v3 v4 i wr => ∃ (a : Nat) (S : List SrT) (p g1 c1 g2 c2 g3 c3 g4 c4 : Nat), v1 = .slice (some ⟨g1, 0, none⟩) p c1 ∧ v2 = .slice (some ⟨g2, 0, none⟩) p c2 ∧ v3 = .slice (some ⟨g3, 0, none⟩) p c3 ∧ v4 = .slice (some ⟨g4, 0, none⟩) p c4 ∧ i = .int .i64 a ∧ Hid (p = S.length) ∧ a ≤ p ∧ Hid (srGood l S) ∧ Hid (srAll rs s lim = srGo rs lim (131073 - a) a S) ∧ Hid (Apart5 w.heap.size g1 g2 g3 g4) ∧ Bk wr w.heap.size 25 #[.int .i64 l, .slice A n c] ∧ Below w.heap.size w wr ∧ OwnG wr g1 w.heap.size 9 1 p (strs (srWords S)) c1 ∧ OwnG wr g2 w.heap.size 3 1 p (ints (srFrom S)) c2 ∧ OwnG wr g3 w.heap.size 95 3 p (cellsLink (srLinks S)) c3 ∧ OwnG wr g4 w.heap.size 3 1 p (ints (srFar S)) c4) (fun _ _ _ _ i _ => 131073 - (intOf i).toNat)
  case atStart => exact ⟨0, _, 1, _, _, _, _, _, _, _, _, rfl, rfl, rfl, rfl, rfl, Lib.hid rfl, by omega, Hgd, Lib.hid rfl, Hap, HS0.out, HW0.out, O1.out, O2.out, O3.out, O4.out⟩
  case round =>
    clear HS0 HW0 O1 O2 O3 O4 Hgd Hap Hw0
    obtain ⟨a, S0, p, g1, c1, g2, c2, g3, c3, g4, c4, rfl, rfl, rfl, rfl, rfl, HP, hap, HG, HE, HA, hS, hW, o1, o2, o3, o4⟩ := hrel
    have hpl : p ≤ 131072 := by rw [HP.out]; exact srGood_len HG.out
    by_cases hlt : a < p
    · have hal : a < S0.length := by rw [← HP.out]; exact hlt
      obtain ⟨cur, hcur⟩ : ∃ x, x = (srAt S0 a).1 := ⟨_, rfl⟩
      have hcg : good8 l cur := by rw [hcur]; exact HG.out.2.1 _ (srAt_word hal)
      have hcz := hcg.2.2
      have hcw := (srAt_cell hal).1
      rw [← hcur] at hcw
      have hsl := hS.lt
      have h1l := o1.2
      have k1 := o1.cell hcw
      have eS : ∀ W, Below wr.heap.size wr W → W.cell? ⟨w.heap.size, 0, none⟩ = some (.int .i64 l) ∧ W.cell? ⟨w.heap.size, 1, none⟩ = some (.slice A n c) ∧ W.cell? ⟨g1, a, none⟩ = some (.string cur) := fun W h => ⟨by rw [(hS.below h hS.lt).cell]; rfl, by rw [(hS.below h hS.lt).cell]; rfl, (h.cell (p := ⟨g1, a, none⟩) h1l).trans k1⟩
      have hV0 : Below wr.heap.size wr wr.drew := (Below.refl _ _).drew
      have eR : ∀ W, Below wr.heap.size wr W → Rd W A (cellsRule rs) := fun W h => Hr.out.keep (hW.trans (h.mono hW.size))
      obtain ⟨X, hX⟩ : ∃ X, X = lkAll rs cur lim := ⟨_, rfl⟩
      obtain ⟨q, hq⟩ : ∃ q, q = X.length := ⟨_, rfl⟩
      have hqb : q ≤ 408 := by rw [hq, hX]; exact lkAll_len Hro.out (by omega)
      have ES := Lib.hid eS
      clear eS
      have ER := Lib.hid eR
      clear eR
      have Hcur := Lib.hid hcur
      clear hcur
      have HX := Lib.hid hX
      clear hX
      have Hq := Lib.hid hq
      clear hq
      have Hcg := Lib.hid hcg
      clear hcg
      have Hcw := Lib.hid hcw
      clear hcw
      have HS := Lib.hid hS
      clear hS
      have HW := Lib.hid hW
      clear hW
      have O1 := Lib.hid o1
      clear o1
      have O2 := Lib.hid o2
      clear o2
      have O3 := Lib.hid o3
      clear o3
      have O4 := Lib.hid o4
      clear o4
      clear k1
      go_wp2_with fail
      refine wp_region_held_drew (S := (fun W => W.cell? ⟨w.heap.size, 0, none⟩ = some (.int .i64 l) ∧ W.cell? ⟨w.heap.size, 1, none⟩ = some (.slice A n c) ∧ W.cell? ⟨g1, a, none⟩ = some (.string cur))) (by kernel_rfl) (ES.out _ hV0) (fun hHeld => ?_)
      refine wpAnyH_take (i := 0) (oi := ?oi177) (v := ?val177) ?hi177 ?hs177 ?hf177 ?hr177 ?hQ177 ?hy177 ?hS177 ?hrest177
      case hi177 => (simp only [List.getElem?_toArray, List.getElem?_cons_succ, List.getElem?_cons_zero] <;> exact rfl)
      case hs177 => kernel_rfl
      case hf177 => kernel_rfl
      case hr177 => kernel_rfl
      case hQ177 => exact fun _ _ _ h => h
      case hS177 => assumption
      case hy177 => (refine Or.inl ⟨by rfl, ?_⟩; intro w hSw; (try dsimp only at hSw); (first | obtain ⟨z0, z1, z2, z3, z4, z5⟩ := hSw | obtain ⟨z0, z1, z2, z3⟩ := hSw | obtain ⟨z0, z1, z2⟩ := hSw | obtain ⟨z0, z1⟩ := hSw | skip); go_simp; try with_reducible rfl)
      simp only [Act.put, List.setIfInBounds_toArray, List.set_cons_zero, List.set_cons_succ]
      refine wpAnyH_take (i := 1) (oi := ?oi186) (v := ?val186) ?hi186 ?hs186 ?hf186 ?hr186 ?hQ186 ?hy186 ?hS186 ?hrest186
      case hi186 => (simp only [List.getElem?_toArray, List.getElem?_cons_succ, List.getElem?_cons_zero] <;> exact rfl)
      case hs186 => kernel_rfl
      case hf186 => kernel_rfl
      case hr186 => kernel_rfl
      case hQ186 => exact fun _ _ _ h => h
      case hS186 => assumption
      case hy186 => (refine Or.inl ⟨by rfl, ?_⟩; intro w hSw; (try dsimp only at hSw); (first | obtain ⟨z0, z1, z2, z3, z4, z5⟩ := hSw | obtain ⟨z0, z1, z2, z3⟩ := hSw | obtain ⟨z0, z1, z2⟩ := hSw | obtain ⟨z0, z1⟩ := hSw | skip); go_simp; try with_reducible rfl)
      simp only [Act.put, List.setIfInBounds_toArray, List.set_cons_zero, List.set_cons_succ]
      refine wpAnyH_take (i := 2) (oi := ?oi195) (v := ?val195) ?hi195 ?hs195 ?hf195 ?hr195 ?hQ195 ?hy195 ?hS195 ?hrest195
      case hi195 => (simp only [List.getElem?_toArray, List.getElem?_cons_succ, List.getElem?_cons_zero] <;> exact rfl)
      case hs195 => kernel_rfl
      case hf195 => kernel_rfl
      case hr195 => kernel_rfl
      case hQ195 => exact fun _ _ _ h => h
      case hS195 => assumption
      case hy195 => (refine Or.inl ⟨by rfl, ?_⟩; intro w hSw; (try dsimp only at hSw); (first | obtain ⟨z0, z1, z2, z3, z4, z5⟩ := hSw | obtain ⟨z0, z1, z2, z3⟩ := hSw | obtain ⟨z0, z1, z2⟩ := hSw | obtain ⟨z0, z1⟩ := hSw | skip); go_simp; try with_reducible rfl)
      simp only [Act.put, List.setIfInBounds_toArray, List.set_cons_zero, List.set_cons_succ]
      refine wpAnyH_take (i := 3) (oi := ?oi204) (v := ?val204) ?hi204 ?hs204 ?hf204 ?hr204 ?hQ204 ?hy204 ?hS204 ?hrest204
      case hi204 => (simp only [List.getElem?_toArray, List.getElem?_cons_succ, List.getElem?_cons_zero] <;> exact rfl)
      case hs204 => kernel_rfl
      case hf204 => kernel_rfl
      case hr204 => kernel_rfl
      case hQ204 => exact fun _ _ _ h => h
      case hS204 => assumption
      case hy204 => (refine Or.inl ⟨by rfl, ?_⟩; intro w hSw; (try dsimp only at hSw); (first | obtain ⟨z0, z1, z2, z3, z4, z5⟩ := hSw | obtain ⟨z0, z1, z2, z3⟩ := hSw | obtain ⟨z0, z1, z2⟩ := hSw | obtain ⟨z0, z1⟩ := hSw | skip); go_simp; try with_reducible rfl)
      simp only [Act.put, List.setIfInBounds_toArray, List.set_cons_zero, List.set_cons_succ]
      refine wpAnyH_take (i := 4) (oi := ?oi213) (v := ?val213) ?hi213 ?hs213 ?hf213 ?hr213 ?hQ213 ?hy213 ?hS213 ?hrest213
      case hi213 => (simp only [List.getElem?_toArray, List.getElem?_cons_succ, List.getElem?_cons_zero] <;> exact rfl)
      case hs213 => kernel_rfl
      case hf213 => kernel_rfl
      case hr213 => kernel_rfl
      case hQ213 => exact fun _ _ _ h => h
      case hS213 => assumption
      case hy213 => (refine Or.inl ⟨by rfl, ?_⟩; intro w hSw; (try dsimp only at hSw); (first | obtain ⟨z0, z1, z2, z3, z4, z5⟩ := hSw | obtain ⟨z0, z1, z2, z3⟩ := hSw | obtain ⟨z0, z1, z2⟩ := hSw | obtain ⟨z0, z1⟩ := hSw | skip); go_simp; try with_reducible rfl)
      simp only [Act.put, List.setIfInBounds_toArray, List.set_cons_zero, List.set_cons_succ]
      refine wpAnyH_take (i := 5) (oi := ?oi222) (v := ?val222) ?hi222 ?hs222 ?hf222 ?hr222 ?hQ222 ?hy222 ?hS222 ?hrest222
      case hi222 => (simp only [List.getElem?_toArray, List.getElem?_cons_succ, List.getElem?_cons_zero] <;> exact rfl)
      case hs222 => kernel_rfl
      case hf222 => kernel_rfl
      case hr222 => kernel_rfl
      case hQ222 => exact fun _ _ _ h => h
      case hS222 => assumption
      case hy222 => (refine Or.inl ⟨by rfl, ?_⟩; intro w hSw; (try dsimp only at hSw); (first | obtain ⟨z0, z1, z2, z3, z4, z5⟩ := hSw | obtain ⟨z0, z1, z2, z3⟩ := hSw | obtain ⟨z0, z1, z2⟩ := hSw | obtain ⟨z0, z1⟩ := hSw | skip); go_simp; try with_reducible rfl)
      simp only [Act.put, List.setIfInBounds_toArray, List.set_cons_zero, List.set_cons_succ]
      refine wpAnyH_take (i := 8) (oi := ?oi231) (v := ?val231) ?hi231 ?hs231 ?hf231 ?hr231 ?hQ231 ?hy231 ?hS231 ?hrest231
      case hi231 => (simp only [List.getElem?_toArray, List.getElem?_cons_succ, List.getElem?_cons_zero] <;> exact rfl)
      case hs231 => kernel_rfl
      case hf231 => kernel_rfl
      case hr231 => kernel_rfl
      case hQ231 => exact fun _ _ _ h => h
      case hS231 => assumption
      case hy231 => (refine Or.inl ⟨by rfl, ?_⟩; intro w hSw; (try dsimp only at hSw); (first | obtain ⟨z0, z1, z2, z3, z4, z5⟩ := hSw | obtain ⟨z0, z1, z2, z3⟩ := hSw | obtain ⟨z0, z1, z2⟩ := hSw | obtain ⟨z0, z1⟩ := hSw | skip); go_simp; try with_reducible rfl)
      simp only [Act.put, List.setIfInBounds_toArray, List.set_cons_zero, List.set_cons_succ]
      refine wpAnyH_ready (rs := [6]) (by kernel_rfl) (by simp) ?_
      refine AllReadyH.cons rfl (fun K hK => ?_) AllReadyH.nil
      (go_simp; ((with_reducible refine (specLinks_any l A n c rs cur lim _ (ER.out _ hV0) Hn.out hb Hz.out Hro.out (by omega)).mono ?_); rintro e y1 ⟨B, d, rfl, hOX, b1⟩; have hV1 := hV0.trans (b1.mono hV0.size)))
      refine hK.out _ _ (ES.out _ hV1) (fun hHeld2 => ?_)
      clear hK K hHeld
      have hHeld := hHeld2
      clear hHeld2
      first | simp only [Act.put, List.setIfInBounds_toArray, List.set_cons_zero, List.set_cons_succ] | skip
      rw [← HX.out] at hOX
      rw [← HX.out, ← Hq.out]
      rw [← Hq.out] at hOX
      refine wpAnyH_take (i := 7) (oi := ?oi251) (v := ?val251) ?hi251 ?hs251 ?hf251 ?hr251 ?hQ251 ?hy251 ?hS251 ?hrest251
      case hi251 => (simp only [List.getElem?_toArray, List.getElem?_cons_succ, List.getElem?_cons_zero] <;> exact rfl)
      case hs251 => kernel_rfl
      case hf251 => kernel_rfl
      case hr251 => kernel_rfl
      case hQ251 => exact fun _ _ _ h => h
      case hS251 => assumption
      case hy251 => (refine Or.inl ⟨by rfl, ?_⟩; intro w hSw; (try dsimp only at hSw); (first | obtain ⟨z0, z1, z2, z3, z4, z5⟩ := hSw | obtain ⟨z0, z1, z2, z3⟩ := hSw | obtain ⟨z0, z1, z2⟩ := hSw | obtain ⟨z0, z1⟩ := hSw | skip); go_simp; try with_reducible rfl)
      simp only [Act.put, List.setIfInBounds_toArray, List.set_cons_zero, List.set_cons_succ]
      refine wpAnyH_done (by kernel_rfl) ?_ _
      have hrx := Rd.of_own hOX
      have hax : ∀ (g : Nat), g < wr.heap.size → ∀ ad, B = some ad → ad.block < y1.heap.size ∧ ad.block ≠ g := fun g hg ad had => by
        have hl := hOX.lt ad.block (by rw [had]; rfl)
        have hl2 : wr.heap.size ≤ ad.block := hl.1
        exact ⟨hl.2, by omega⟩
      have hbx : ApX B y1 g1 g2 g3 g4 := fun ad had => ⟨(hax g1 O1.out.2 ad had).1, (hax g1 O1.out.2 ad had).2, (hax g2 O2.out.2 ad had).2, (hax g3 O3.out.2 ad had).2, (hax g4 O4.out.2 ad had).2⟩
      have p1 := O1.out.below hV1
      have p2 := O2.out.below hV1
      have p3 := O3.out.below hV1
      have p4 := O4.out.below hV1
      have hS1 := HS.out.below hV1 HS.out.lt
      have hW1 := HW.out.trans (hV1.mono HW.out.size)
      clear hHeld O1 O2 O3 O4 HS HW ES ER hax hOX hV0 hV1 b1 Hcw h1l hsl
      have Hrx := Lib.hid hrx
      clear hrx
      have Hbx := Lib.hid hbx
      clear hbx
      have P1 := Lib.hid p1
      clear p1
      have P2 := Lib.hid p2
      clear p2
      have P3 := Lib.hid p3
      clear p3
      have P4 := Lib.hid p4
      clear p4
      have HS1 := Lib.hid hS1
      clear hS1
      have HW1 := Lib.hid hW1
      clear hW1
      go_wp2_with fail
      go_loopw [10, 11, 12, 13, 39] (fun v1 v2 v3 v4 i wr => ∃ (j : Nat) (S : List SrT) (p g1 c1 g2 c2 g3 c3 g4 c4 : Nat), v1 = .slice (some ⟨g1, 0, none⟩) p c1 ∧ v2 = .slice (some ⟨g2, 0, none⟩) p c2 ∧ v3 = .slice (some ⟨g3, 0, none⟩) p c3 ∧ v4 = .slice (some ⟨g4, 0, none⟩) p c4 ∧ i = .int .i64 j ∧ j ≤ q ∧ Hid (p = S.length) ∧ Hid (S = srRow rs a S0 (X.take j)) ∧ Hid (Apart5 w.heap.size g1 g2 g3 g4) ∧ Hid (ApX B wr g1 g2 g3 g4) ∧ Rd wr B (cellsLink X) ∧ Bk wr w.heap.size 25 #[.int .i64 l, .slice A n c] ∧ Below w.heap.size w wr ∧ OwnG wr g1 w.heap.size 9 1 p (strs (srWords S)) c1 ∧ OwnG wr g2 w.heap.size 3 1 p (ints (srFrom S)) c2 ∧ OwnG wr g3 w.heap.size 95 3 p (cellsLink (srLinks S)) c3 ∧ OwnG wr g4 w.heap.size 3 1 p (ints (srFar S)) c4) (fun _ _ _ _ i _ => q - (intOf i).toNat)
      case atStart => exact ⟨0, S0, p, g1, c1, g2, c2, g3, c3, g4, c4, rfl, rfl, rfl, rfl, rfl, Nat.zero_le _, HP, Lib.hid rfl, HA, Hbx, Hrx.out, HS1.out, HW1.out, P1.out, P2.out, P3.out, P4.out⟩
      case round =>
        clear Hrx Hbx P1 P2 P3 P4 HS1 HW1 HA HP hlt hap hpl
        obtain ⟨j, S, p, g1, c1, g2, c2, g3, c3, g4, c4, rfl, rfl, rfl, rfl, rfl, hj, HP, HS', HA, Hbx, hrx, hS, hW, p1, p2, p3, p4⟩ := hrel
        have hsub : ∀ (J : Nat), ∀ x ∈ X.take J, x ∈ lkAll rs (srAt S0 a).1 lim := fun J x hx => by rw [← Hcur.out, ← HX.out]; exact List.mem_of_mem_take hx
        obtain ⟨hgS, T, hT⟩ := srRow_good (lim := lim) Hro.out hlim (X.take j) S0 HG.out hal (hsub j)
        rw [← HS'.out] at hgS hT
        have hpl : p ≤ 131072 := by rw [HP.out]; exact srGood_len hgS
        have hS0l : S0.length ≤ S.length := by rw [hT, List.length_append]; omega
        have haS : a < S.length := by omega
        have hatS : srAt S a = srAt S0 a := by rw [hT]; exact srAt_app hal
        by_cases hlt : j < q
        · have hj2 : j < X.length := by rw [← Hq.out]; exact hlt
          obtain ⟨b, o, hB, hbl, x0c, x1c, x2c⟩ := rd_Link hrx hj2
          obtain ⟨⟨x0, x1, x2⟩, hx⟩ : ∃ x, x = X[j] := ⟨_, rfl⟩
          rw [← hx] at x0c x1c x2c
          dsimp only at x0c x1c x2c
          have htk : X.take (j + 1) = X.take j ++ [(x0, x1, x2)] := by rw [hx]; exact List.take_succ_eq_append_getElem hj2
          have hnx : srRow rs a S0 (X.take (j + 1)) = srAdd rs a S (x0, x1, x2) := by rw [htk, srRow_snoc, ← HS'.out]
          subst hB
          have hap3 : a < p := by rw [HP.out]; exact haS
          have hcw := (srAt_cell haS).1
          rw [hatS, ← Hcur.out] at hcw
          have hfr := (srAt_cell haS).2
          have hfb := hgS.2.2 a haS
          obtain ⟨fa, hfa⟩ : ∃ f, f = (srAt S a).2.2.2 := ⟨_, rfl⟩
          rw [← hfa] at hfr hfb
          have happ := HA.out
          unfold Apart5 at happ
          obtain ⟨a1, a2, a3, a4, a5, a6, a7, a8, a9, a10⟩ := happ
          have l1 := p1.2
          have l2 := p2.2
          have l3 := p3.2
          have l4 := p4.2
          have hB8 := Bk.new wr 95 #[.int .i64 x0, .int .i64 x1, .bool x2]
          have hS8 := hS.alloc (.cells #[.int .i64 x0, .int .i64 x1, .bool x2] 95)
          have hW8 := hW.alloc hW.size (.cells #[.int .i64 x0, .int .i64 x1, .bool x2] 95)
          have k1 := (p1.alloc (.cells #[.int .i64 x0, .int .i64 x1, .bool x2] 95)).cell hcw
          have hwl : wr.heap.size < (World.alloc wr (.cells #[.int .i64 x0, .int .i64 x1, .bool x2] 95)).heap.size := by simp
          have eS : ∀ W, Below (World.alloc wr (.cells #[.int .i64 x0, .int .i64 x1, .bool x2] 95)).heap.size (World.alloc wr (.cells #[.int .i64 x0, .int .i64 x1, .bool x2] 95)) W → W.cell? ⟨w.heap.size, 0, none⟩ = some (.int .i64 l) ∧ W.cell? ⟨w.heap.size, 1, none⟩ = some (.slice A n c) ∧ W.cell? ⟨g1, a, none⟩ = some (.string cur) ∧ W.cell? ⟨wr.heap.size, 0, none⟩ = some (.int .i64 x0) ∧ W.cell? ⟨wr.heap.size, 1, none⟩ = some (.int .i64 x1) ∧ W.cell? ⟨wr.heap.size, 2, none⟩ = some (.bool x2) := fun W h => ⟨by rw [(hS8.below h hS8.lt).cell]; rfl, by rw [(hS8.below h hS8.lt).cell]; rfl, (h.cell (p := ⟨g1, a, none⟩) (Nat.lt_trans l1 hwl)).trans k1, by rw [(hB8.below h hB8.lt).cell]; rfl, by rw [(hB8.below h hB8.lt).cell]; rfl, by rw [(hB8.below h hB8.lt).cell]; rfl⟩
          have hV0 : Below (World.alloc wr (.cells #[.int .i64 x0, .int .i64 x1, .bool x2] 95)).heap.size (World.alloc wr (.cells #[.int .i64 x0, .int .i64 x1, .bool x2] 95)) (World.alloc wr (.cells #[.int .i64 x0, .int .i64 x1, .bool x2] 95)).drew := (Below.refl _ _).drew
          have eR : ∀ W, Below (World.alloc wr (.cells #[.int .i64 x0, .int .i64 x1, .bool x2] 95)).heap.size (World.alloc wr (.cells #[.int .i64 x0, .int .i64 x1, .bool x2] 95)) W → Rd W A (cellsRule rs) := fun W h => Hr.out.keep (hW8.trans (h.mono hW8.size))
          obtain ⟨y, hy⟩ : ∃ y, y = linkS rs cur (x0, x1, x2) := ⟨_, rfl⟩
          obtain ⟨ky, hky⟩ : ∃ k, k = alOk l rs cur (x0, x1, x2) := ⟨_, rfl⟩
          have e5 : alS l rs cur (x0, x1, x2) = y := by rw [(al_yes Hro.out).2, hy]
          have hyS : linkS rs (srAt S a).1 (x0, x1, x2) = y := by rw [hatS, ← Hcur.out, hy]
          have eV : ∀ W, Below (World.alloc wr (.cells #[.int .i64 x0, .int .i64 x1, .bool x2] 95)).heap.size (World.alloc wr (.cells #[.int .i64 x0, .int .i64 x1, .bool x2] 95)) W → OwnG W g1 w.heap.size 9 1 p (strs (srWords S)) c1 ∧ OwnG W g2 w.heap.size 3 1 p (ints (srFrom S)) c2 ∧ OwnG W g3 w.heap.size 95 3 p (cellsLink (srLinks S)) c3 ∧ OwnG W g4 w.heap.size 3 1 p (ints (srFar S)) c4 ∧ Bk W wr.heap.size 95 #[.int .i64 x0, .int .i64 x1, .bool x2] ∧ Bk W w.heap.size 25 #[.int .i64 l, .slice A n c] ∧ Rd W (some ⟨b, o, none⟩) (cellsLink X) ∧ Below w.heap.size w W ∧ wr.heap.size < W.heap.size := fun W h => ⟨(p1.alloc _).below h, (p2.alloc _).below h, (p3.alloc _).below h, (p4.alloc _).below h, hB8.below h hB8.lt, hS8.below h hS8.lt, (hrx.keep ((Below.refl _ wr).alloc (Nat.le_refl _) _)).keep h, hW8.trans (h.mono hW8.size), Nat.lt_of_lt_of_le hwl h.size⟩
          have hslS := hS.lt
          clear k1 hS8 hW8 hB8 p1 p2 p3 p4 hS hW
          have ES := Lib.hid eS
          clear eS
          have ER := Lib.hid eR
          clear eR
          have EV := Lib.hid eV
          clear eV
          have Hx := Lib.hid hx
          clear hx
          have Htk := Lib.hid htk
          clear htk
          have Hnx := Lib.hid hnx
          clear hnx
          have HgS := Lib.hid hgS
          clear hgS
          have HT := Lib.hid hT
          clear hT
          have HatS := Lib.hid hatS
          clear hatS
          have Hcw := Lib.hid hcw
          clear hcw
          have Hfr := Lib.hid hfr
          clear hfr
          have Hfa := Lib.hid hfa
          clear hfa
          have E5 := Lib.hid e5
          clear e5
          have Hy := Lib.hid hy
          clear hy
          have Hky := Lib.hid hky
          clear hky
          have HyS := Lib.hid hyS
          clear hyS
          have Hrx := Lib.hid hrx
          clear hrx
          have Hsub := Lib.hid hsub
          clear hsub
          go_wp2_with fail
          refine wp_region_held_drew (S := (fun W => W.cell? ⟨w.heap.size, 0, none⟩ = some (.int .i64 l) ∧ W.cell? ⟨w.heap.size, 1, none⟩ = some (.slice A n c) ∧ W.cell? ⟨g1, a, none⟩ = some (.string cur) ∧ W.cell? ⟨wr.heap.size, 0, none⟩ = some (.int .i64 x0) ∧ W.cell? ⟨wr.heap.size, 1, none⟩ = some (.int .i64 x1) ∧ W.cell? ⟨wr.heap.size, 2, none⟩ = some (.bool x2))) (by kernel_rfl) (ES.out _ hV0) (fun hHeld => ?_)
          refine wpAnyH_take (i := 0) (oi := ?oi379) (v := ?val379) ?hi379 ?hs379 ?hf379 ?hr379 ?hQ379 ?hy379 ?hS379 ?hrest379
          case hi379 => (simp only [List.getElem?_toArray, List.getElem?_cons_succ, List.getElem?_cons_zero] <;> exact rfl)
          case hs379 => kernel_rfl
          case hf379 => kernel_rfl
          case hr379 => kernel_rfl
          case hQ379 => exact fun _ _ _ h => h
          case hS379 => assumption
          case hy379 => (refine Or.inl ⟨by rfl, ?_⟩; intro w hSw; (try dsimp only at hSw); (first | obtain ⟨z0, z1, z2, z3, z4, z5⟩ := hSw | obtain ⟨z0, z1, z2, z3⟩ := hSw | obtain ⟨z0, z1, z2⟩ := hSw | obtain ⟨z0, z1⟩ := hSw | skip); go_simp; try with_reducible rfl)
          simp only [Act.put, List.setIfInBounds_toArray, List.set_cons_zero, List.set_cons_succ]
          refine wpAnyH_take (i := 1) (oi := ?oi388) (v := ?val388) ?hi388 ?hs388 ?hf388 ?hr388 ?hQ388 ?hy388 ?hS388 ?hrest388
          case hi388 => (simp only [List.getElem?_toArray, List.getElem?_cons_succ, List.getElem?_cons_zero] <;> exact rfl)
          case hs388 => kernel_rfl
          case hf388 => kernel_rfl
          case hr388 => kernel_rfl
          case hQ388 => exact fun _ _ _ h => h
          case hS388 => assumption
          case hy388 => (refine Or.inl ⟨by rfl, ?_⟩; intro w hSw; (try dsimp only at hSw); (first | obtain ⟨z0, z1, z2, z3, z4, z5⟩ := hSw | obtain ⟨z0, z1, z2, z3⟩ := hSw | obtain ⟨z0, z1, z2⟩ := hSw | obtain ⟨z0, z1⟩ := hSw | skip); go_simp; try with_reducible rfl)
          simp only [Act.put, List.setIfInBounds_toArray, List.set_cons_zero, List.set_cons_succ]
          refine wpAnyH_take (i := 2) (oi := ?oi397) (v := ?val397) ?hi397 ?hs397 ?hf397 ?hr397 ?hQ397 ?hy397 ?hS397 ?hrest397
          case hi397 => (simp only [List.getElem?_toArray, List.getElem?_cons_succ, List.getElem?_cons_zero] <;> exact rfl)
          case hs397 => kernel_rfl
          case hf397 => kernel_rfl
          case hr397 => kernel_rfl
          case hQ397 => exact fun _ _ _ h => h
          case hS397 => assumption
          case hy397 => (refine Or.inl ⟨by rfl, ?_⟩; intro w hSw; (try dsimp only at hSw); (first | obtain ⟨z0, z1, z2, z3, z4, z5⟩ := hSw | obtain ⟨z0, z1, z2, z3⟩ := hSw | obtain ⟨z0, z1, z2⟩ := hSw | obtain ⟨z0, z1⟩ := hSw | skip); go_simp; try with_reducible rfl)
          simp only [Act.put, List.setIfInBounds_toArray, List.set_cons_zero, List.set_cons_succ]
          refine wpAnyH_take (i := 3) (oi := ?oi406) (v := ?val406) ?hi406 ?hs406 ?hf406 ?hr406 ?hQ406 ?hy406 ?hS406 ?hrest406
          case hi406 => (simp only [List.getElem?_toArray, List.getElem?_cons_succ, List.getElem?_cons_zero] <;> exact rfl)
          case hs406 => kernel_rfl
          case hf406 => kernel_rfl
          case hr406 => kernel_rfl
          case hQ406 => exact fun _ _ _ h => h
          case hS406 => assumption
          case hy406 => (refine Or.inl ⟨by rfl, ?_⟩; intro w hSw; (try dsimp only at hSw); (first | obtain ⟨z0, z1, z2, z3, z4, z5⟩ := hSw | obtain ⟨z0, z1, z2, z3⟩ := hSw | obtain ⟨z0, z1, z2⟩ := hSw | obtain ⟨z0, z1⟩ := hSw | skip); go_simp; try with_reducible rfl)
          simp only [Act.put, List.setIfInBounds_toArray, List.set_cons_zero, List.set_cons_succ]
          refine wpAnyH_take (i := 4) (oi := ?oi415) (v := ?val415) ?hi415 ?hs415 ?hf415 ?hr415 ?hQ415 ?hy415 ?hS415 ?hrest415
          case hi415 => (simp only [List.getElem?_toArray, List.getElem?_cons_succ, List.getElem?_cons_zero] <;> exact rfl)
          case hs415 => kernel_rfl
          case hf415 => kernel_rfl
          case hr415 => kernel_rfl
          case hQ415 => exact fun _ _ _ h => h
          case hS415 => assumption
          case hy415 => (refine Or.inl ⟨by rfl, ?_⟩; intro w hSw; (try dsimp only at hSw); (first | obtain ⟨z0, z1, z2, z3, z4, z5⟩ := hSw | obtain ⟨z0, z1, z2, z3⟩ := hSw | obtain ⟨z0, z1, z2⟩ := hSw | obtain ⟨z0, z1⟩ := hSw | skip); go_simp; try with_reducible rfl)
          simp only [Act.put, List.setIfInBounds_toArray, List.set_cons_zero, List.set_cons_succ]
          refine wpAnyH_take (i := 5) (oi := ?oi424) (v := ?val424) ?hi424 ?hs424 ?hf424 ?hr424 ?hQ424 ?hy424 ?hS424 ?hrest424
          case hi424 => (simp only [List.getElem?_toArray, List.getElem?_cons_succ, List.getElem?_cons_zero] <;> exact rfl)
          case hs424 => kernel_rfl
          case hf424 => kernel_rfl
          case hr424 => kernel_rfl
          case hQ424 => exact fun _ _ _ h => h
          case hS424 => assumption
          case hy424 => (refine Or.inl ⟨by rfl, ?_⟩; intro w hSw; (try dsimp only at hSw); (first | obtain ⟨z0, z1, z2, z3, z4, z5⟩ := hSw | obtain ⟨z0, z1, z2, z3⟩ := hSw | obtain ⟨z0, z1, z2⟩ := hSw | obtain ⟨z0, z1⟩ := hSw | skip); go_simp; try with_reducible rfl)
          simp only [Act.put, List.setIfInBounds_toArray, List.set_cons_zero, List.set_cons_succ]
          refine wpAnyH_ready (rs := [6]) (by kernel_rfl) (by simp) ?_
          refine AllReadyH.cons rfl (fun K hK => ?_) AllReadyH.nil
          (go_simp; ((with_reducible refine (specApplyLink_any l A n c rs cur x0 x1 x2 _ (ER.out _ hV0) Hn.out hb Hz.out (by omega)).mono ?_); rintro e y2 ⟨rfl, b2⟩; rw [E5.out, ← Hky.out]; have hV1 := hV0.trans (b2.mono hV0.size)))
          refine hK.out _ _ (ES.out _ hV1) (fun hHeld2 => ?_)
          clear hK K hHeld
          have hHeld := hHeld2
          clear hHeld2
          first | simp only [Act.put, List.setIfInBounds_toArray, List.set_cons_zero, List.set_cons_succ] | skip
          refine wpAnyH_take (i := 7) (oi := ?oi441) (v := ?val441) ?hi441 ?hs441 ?hf441 ?hr441 ?hQ441 ?hy441 ?hS441 ?hrest441
          case hi441 => (simp only [List.getElem?_toArray, List.getElem?_cons_succ, List.getElem?_cons_zero] <;> exact rfl)
          case hs441 => kernel_rfl
          case hf441 => kernel_rfl
          case hr441 => kernel_rfl
          case hQ441 => exact fun _ _ _ h => h
          case hS441 => assumption
          case hy441 => (refine Or.inl ⟨by rfl, ?_⟩; intro w hSw; (try dsimp only at hSw); (first | obtain ⟨z0, z1, z2, z3, z4, z5⟩ := hSw | obtain ⟨z0, z1, z2, z3⟩ := hSw | obtain ⟨z0, z1, z2⟩ := hSw | obtain ⟨z0, z1⟩ := hSw | skip); go_simp; try with_reducible rfl)
          simp only [Act.put, List.setIfInBounds_toArray, List.set_cons_zero, List.set_cons_succ]
          refine wpAnyH_take (i := 8) (oi := ?oi450) (v := ?val450) ?hi450 ?hs450 ?hf450 ?hr450 ?hQ450 ?hy450 ?hS450 ?hrest450
          case hi450 => (simp only [List.getElem?_toArray, List.getElem?_cons_succ, List.getElem?_cons_zero] <;> exact rfl)
          case hs450 => kernel_rfl
          case hf450 => kernel_rfl
          case hr450 => kernel_rfl
          case hQ450 => exact fun _ _ _ h => h
          case hS450 => assumption
          case hy450 => (refine Or.inl ⟨by rfl, ?_⟩; intro w hSw; (try dsimp only at hSw); (first | obtain ⟨z0, z1, z2, z3, z4, z5⟩ := hSw | obtain ⟨z0, z1, z2, z3⟩ := hSw | obtain ⟨z0, z1, z2⟩ := hSw | obtain ⟨z0, z1⟩ := hSw | skip); go_simp; try with_reducible rfl)
          simp only [Act.put, List.setIfInBounds_toArray, List.set_cons_zero, List.set_cons_succ]
          refine wpAnyH_take (i := 9) (oi := ?oi459) (v := ?val459) ?hi459 ?hs459 ?hf459 ?hr459 ?hQ459 ?hy459 ?hS459 ?hrest459
          case hi459 => (simp only [List.getElem?_toArray, List.getElem?_cons_succ, List.getElem?_cons_zero] <;> exact rfl)
          case hs459 => kernel_rfl
          case hf459 => kernel_rfl
          case hr459 => kernel_rfl
          case hQ459 => exact fun _ _ _ h => h
          case hS459 => assumption
          case hy459 => (refine Or.inl ⟨by rfl, ?_⟩; intro w hSw; (try dsimp only at hSw); (first | obtain ⟨z0, z1, z2, z3, z4, z5⟩ := hSw | obtain ⟨z0, z1, z2, z3⟩ := hSw | obtain ⟨z0, z1, z2⟩ := hSw | obtain ⟨z0, z1⟩ := hSw | skip); go_simp; try with_reducible rfl)
          simp only [Act.put, List.setIfInBounds_toArray, List.set_cons_zero, List.set_cons_succ]
          refine wpAnyH_take (i := 10) (oi := ?oi468) (v := ?val468) ?hi468 ?hs468 ?hf468 ?hr468 ?hQ468 ?hy468 ?hS468 ?hrest468
          case hi468 => (simp only [List.getElem?_toArray, List.getElem?_cons_succ, List.getElem?_cons_zero] <;> exact rfl)
          case hs468 => kernel_rfl
          case hf468 => kernel_rfl
          case hr468 => kernel_rfl
          case hQ468 => exact fun _ _ _ h => h
          case hS468 => assumption
          case hy468 => (refine Or.inl ⟨by rfl, ?_⟩; intro w hSw; (try dsimp only at hSw); (first | obtain ⟨z0, z1, z2, z3, z4, z5⟩ := hSw | obtain ⟨z0, z1, z2, z3⟩ := hSw | obtain ⟨z0, z1, z2⟩ := hSw | obtain ⟨z0, z1⟩ := hSw | skip); go_simp; try with_reducible rfl)
          simp only [Act.put, List.setIfInBounds_toArray, List.set_cons_zero, List.set_cons_succ]
          refine wpAnyH_take (i := 11) (oi := ?oi477) (v := ?val477) ?hi477 ?hs477 ?hf477 ?hr477 ?hQ477 ?hy477 ?hS477 ?hrest477
          case hi477 => (simp only [List.getElem?_toArray, List.getElem?_cons_succ, List.getElem?_cons_zero] <;> exact rfl)
          case hs477 => kernel_rfl
          case hf477 => kernel_rfl
          case hr477 => kernel_rfl
          case hQ477 => exact fun _ _ _ h => h
          case hS477 => assumption
          case hy477 => (refine Or.inl ⟨by rfl, ?_⟩; intro w hSw; (try dsimp only at hSw); (first | obtain ⟨z0, z1, z2, z3, z4, z5⟩ := hSw | obtain ⟨z0, z1, z2, z3⟩ := hSw | obtain ⟨z0, z1, z2⟩ := hSw | obtain ⟨z0, z1⟩ := hSw | skip); go_simp; try with_reducible rfl)
          simp only [Act.put, List.setIfInBounds_toArray, List.set_cons_zero, List.set_cons_succ]
          refine wpAnyH_done (by kernel_rfl) ?_ _
          obtain ⟨p1, p2, p3, p4, hB9, hS9, hrx9, hW9, hy2⟩ := EV.out _ hV1
          clear hHeld ES ER EV hV0 hV1 b2
          obtain ⟨fo, hfo⟩ : ∃ fo, fo = fnd (srWords S) y := ⟨_, rfl⟩
          have hpw : p = (srWords S).length := by rw [srWords_len]; exact HP.out
          cases fo with
          | some i0 =>
            have e7 : fndI (srWords S) y = (i0 : Int) := by simp [fndI, ← hfo]
            have hn2 : S = srRow rs a S0 (X.take (j + 1)) := by rw [Hnx.out, srAdd_some (by rw [HyS.out]; exact hfo.symm)]
            have hbx2 : ApX (some ⟨b, o, none⟩) y2 g1 g2 g3 g4 := fun ad had => ⟨by have := (Hbx.out ad had).1; omega, (Hbx.out ad had).2⟩
            have Hfo := Lib.hid hfo
            clear hfo
            have E7 := Lib.hid e7
            clear e7
            have Hn2 := Lib.hid hn2
            clear hn2
            have Hbx2 := Lib.hid hbx2
            clear hbx2
            have Hpw := Lib.hid hpw
            clear hpw
            have HB9 := Lib.hid hB9
            clear hB9
            have HS9 := Lib.hid hS9
            clear hS9
            have Hrx9 := Lib.hid hrx9
            clear hrx9
            have HW9 := Lib.hid hW9
            clear hW9
            go_wp2_with fail
            refine (specFind_any (some ⟨g1, 0, none⟩) p c1 (srWords S) y _ p1.rd Hpw.out (by omega)).mono ?_
            rintro e w3 ⟨rfl, rfl⟩
            rw [E7.out]
            go_wp2_with fail
            go_roundw
            case rel => exact ⟨j + 1, S, p, g1, c1, g2, c2, g3, c3, g4, c4, rfl, rfl, rfl, rfl, by go_num, by omega, HP, Hn2, HA, Hbx2, Hrx9.out, HS9.out, HW9.out, p1, p2, p3, p4⟩
            case measure => simp [intOf] <;> omega
          | none =>
            have e7 : fndI (srWords S) y = -1 := by simp [fndI, ← hfo]
            have hn2 : S ++ [(y, (a : Int), (x0, x1, x2), fa + 1)] = srRow rs a S0 (X.take (j + 1)) := by rw [Hnx.out, srAdd_none (by rw [HyS.out]; exact hfo.symm), HyS.out, ← Hfa.out]
            have hp2 : p + 1 = (S ++ [(y, (a : Int), (x0, x1, x2), fa + 1)]).length := by rw [List.length_append, ← HP.out]; rfl
            have t1 : strs (srWords (S ++ [(y, (a : Int), (x0, x1, x2), fa + 1)])) = strs (srWords S) ++ [.string y] := by simp [strs, srWords]
            have t2 : ints (srFrom (S ++ [(y, (a : Int), (x0, x1, x2), fa + 1)])) = ints (srFrom S) ++ [.int .i64 (a : Int)] := by simp [ints, srFrom]
            have t3 : cellsLink (srLinks (S ++ [(y, (a : Int), (x0, x1, x2), fa + 1)])) = cellsLink (srLinks S) ++ [.int .i64 x0, .int .i64 x1, .bool x2] := by simp [cellsLink, srLinks, encLink]
            have t4 : ints (srFar (S ++ [(y, (a : Int), (x0, x1, x2), fa + 1)])) = ints (srFar S) ++ [.int .i64 (fa + 1)] := by simp [ints, srFar]
            have hfi : (fa + 1 : Int) = fa + 1 := rfl
            have hfu : fa ≤ 131072 := by omega
            have hf0 := hfb.1
            have m1 := p1.2
            have m2 := p2.2
            have m3 := p3.2
            have m4 := p4.2
            have hS9l := hS9.lt
            have hw9 := hW9.size
            clear hfi hfb
            have Hfo := Lib.hid hfo
            clear hfo
            have E7 := Lib.hid e7
            clear e7
            have Hn2 := Lib.hid hn2
            clear hn2
            have Hp2 := Lib.hid hp2
            clear hp2
            have T1 := Lib.hid t1
            clear t1
            have T2 := Lib.hid t2
            clear t2
            have T3 := Lib.hid t3
            clear t3
            have T4 := Lib.hid t4
            clear t4
            have Hpw := Lib.hid hpw
            clear hpw
            go_wp2_with fail
            refine (specFind_any (some ⟨g1, 0, none⟩) p c1 (srWords S) y _ p1.rd Hpw.out (by omega)).mono ?_
            rintro e w3 ⟨rfl, rfl⟩
            rw [E7.out]
            go_wp2_with (at_builtin; first | (refine wpList_app4 _ _ rfl _ _ 29 rfl w.heap.size 9 1 16 _ Try.underlying29 info_str rfl (by omega) g1 _ _ _ _ rfl rfl rfl p1 rfl (one_cell_str _) (by omega) (by unfold maxLen; omega) (by omega) ?_; intro h1 d1 W1 q1 hG1 hat1; have z1 := hG1.size; have zq1 := q1.2; have p2 := p2.grown hG1 (by omega); have p3 := p3.grown hG1 (by omega); have p4 := p4.grown hG1 (by omega); have hB9 := hB9.grownG hG1 (by omega); have hS9 := hS9.grownG hG1 (by omega); have hrx9 := hrx9.grown hG1 (fun ad had e => by have h5 := Hbx.out ad had; injection e with e; omega); have hW9 := hW9.grown hG1 (by omega) (fun k hk => by injection hk with hk; omega)) | (refine wpList_app4 _ _ rfl _ _ 73 rfl w.heap.size 3 1 8 _ Try.underlying73 info_int rfl (by omega) g2 _ _ _ _ rfl rfl rfl p2 rfl (one_cell1 _) (by omega) (by unfold maxLen; omega) (by omega) ?_; intro h2 d2 W2 q2 hG2 hat2; have z2 := hG2.size; have zq2 := q2.2; have p3 := p3.grown hG2 (by omega); have p4 := p4.grown hG2 (by omega); have q1 := q1.grown hG2 (by omega); have hB9 := hB9.grownG hG2 (by omega); have hS9 := hS9.grownG hG2 (by omega); have hrx9 := hrx9.grown hG2 (fun ad had e => by have h5 := Hbx.out ad had; injection e with e; omega); have hW9 := hW9.grown hG2 (by omega) (fun k hk => by injection hk with hk; omega); have b0 : W2.cell? ⟨wr.heap.size, 0, none⟩ = some (.int .i64 x0) := hB9.cell 0; have b1 : W2.cell? ⟨wr.heap.size, 1, none⟩ = some (.int .i64 x1) := hB9.cell 1; have b2 : W2.cell? ⟨wr.heap.size, 2, none⟩ = some (.bool x2) := hB9.cell 2) | (refine wpList_app4 _ _ rfl _ _ 26 rfl w.heap.size 95 3 24 _ Try.underlying26 info_Link rfl (by omega) g3 _ _ _ _ rfl rfl rfl p3 rfl (one_cell_link _ _ _) (by omega) (by unfold maxLen; omega) (by omega) ?_; intro h3 d3 W3 q3 hG3 hat3; have z3 := hG3.size; have zq3 := q3.2; have p4 := p4.grown hG3 (by omega); have q1 := q1.grown hG3 (by omega); have q2 := q2.grown hG3 (by omega); have hB9 := hB9.grownG hG3 (by omega); have hS9 := hS9.grownG hG3 (by omega); have hrx9 := hrx9.grown hG3 (fun ad had e => by have h5 := Hbx.out ad had; injection e with e; omega); have hW9 := hW9.grown hG3 (by omega) (fun k hk => by injection hk with hk; omega); have k4 := p4.cell Hfr.out) | (refine wpList_app4 _ _ rfl _ _ 73 rfl w.heap.size 3 1 8 _ Try.underlying73 info_int rfl (by omega) g4 _ _ _ _ rfl rfl rfl p4 rfl (one_cell1 _) (by omega) (by unfold maxLen; omega) (by omega) ?_; intro h4 d4 W4 q4 hG4 hat4; have z4 := hG4.size; have zq4 := q4.2; have q1 := q1.grown hG4 (by omega); have q2 := q2.grown hG4 (by omega); have q3 := q3.grown hG4 (by omega); have hB9 := hB9.grownG hG4 (by omega); have hS9 := hS9.grownG hG4 (by omega); have hrx9 := hrx9.grown hG4 (fun ad had e => by have h5 := Hbx.out ad had; injection e with e; omega); have hW9 := hW9.grown hG4 (by omega) (fun k hk => by injection hk with hk; omega)))
            have u1 : OwnG W4 h1 w.heap.size 9 1 (p + 1) (strs (srWords (S ++ [(y, (a : Int), (x0, x1, x2), fa + 1)]))) d1 := by rw [T1.out]; exact q1
            have u2 : OwnG W4 h2 w.heap.size 3 1 (p + 1) (ints (srFrom (S ++ [(y, (a : Int), (x0, x1, x2), fa + 1)]))) d2 := by rw [T2.out]; exact q2
            have u3 : OwnG W4 h3 w.heap.size 95 3 (p + 1) (cellsLink (srLinks (S ++ [(y, (a : Int), (x0, x1, x2), fa + 1)]))) d3 := by rw [T3.out]; exact q3
            have u4 : OwnG W4 h4 w.heap.size 3 1 (p + 1) (ints (srFar (S ++ [(y, (a : Int), (x0, x1, x2), fa + 1)]))) d4 := by rw [T4.out]; exact q4
            have hA2 : Apart5 w.heap.size h1 h2 h3 h4 := by unfold Apart5; omega
            have hbx2 : ApX (some ⟨b, o, none⟩) W4 h1 h2 h3 h4 := fun ad had => by have h5 := Hbx.out ad had; omega
            clear q1 q2 q3 q4
            have U1 := Lib.hid u1
            clear u1
            have U2 := Lib.hid u2
            clear u2
            have U3 := Lib.hid u3
            clear u3
            have U4 := Lib.hid u4
            clear u4
            have HA2 := Lib.hid hA2
            clear hA2
            have Hbx2 := Lib.hid hbx2
            clear hbx2
            have Hrx9 := Lib.hid hrx9
            clear hrx9
            have HS9 := Lib.hid hS9
            clear hS9
            have HW9 := Lib.hid hW9
            clear hW9
            go_wp2_with fail
            go_roundw
            case rel => exact ⟨j + 1, S ++ [(y, (a : Int), (x0, x1, x2), fa + 1)], p + 1, h1, d1, h2, d2, h3, d3, h4, d4, rfl, rfl, rfl, rfl, by go_num, by omega, Hp2, Hn2, HA2, Hbx2, Hrx9.out, HS9.out, HW9.out, U1.out, U2.out, U3.out, U4.out⟩
            case measure => simp [intOf] <;> omega
        · have : j = q := by omega
          subst this
          have hT2 : X.take j = X := List.take_of_length_le (by rw [← Hq.out]; exact Nat.le_refl _)
          have hpe := HP.out
          have ha131 : a < 131073 := by omega
          have hnext : srAll rs s lim = srGo rs lim (131073 - (a + 1)) (a + 1) S := by
            rw [HE.out, srGo_go (by omega) hal, HS'.out, hT2, HX.out, Hcur.out]
            rfl
          have hap2 : a + 1 ≤ p := by rw [HP.out]; omega
          clear hsub hT
          have HgS := Lib.hid hgS
          clear hgS
          have Hnext := Lib.hid hnext
          clear hnext
          have HatS := Lib.hid hatS
          clear hatS
          go_wp2_with fail
          go_roundw
          case rel => exact ⟨a + 1, S, p, g1, c1, g2, c2, g3, c3, g4, c4, rfl, rfl, rfl, rfl, by go_num, HP, hap2, HgS, Hnext, HA, hS, hW, p1, p2, p3, p4⟩
          case measure => simp [intOf] <;> omega
    · have : a = p := by omega
      subst this
      have e1 : srAll rs s lim = S0 := by rw [HE.out, srGo_end (by rw [← HP.out]; exact Nat.le_refl _)]
      have E1 := Lib.hid e1
      clear e1
      go_wp2_with fail
      refine bodyPost_ret (v := .tuple #[.slice (some ⟨g1, 0, none⟩) a c1, .slice (some ⟨g2, 0, none⟩) a c2, .slice (some ⟨g3, 0, none⟩) a c3, .slice (some ⟨g4, 0, none⟩) a c4]) (by simp [results, Try.results115, go_sem]) rfl ?_
      rw [E1.out]
      unfold MadeSr
      rw [← HP.out]
      exact ⟨g1, c1, g2, c2, g3, c3, g4, c4, rfl, o1, o2, o3, o4, hW⟩

end Go.Proofs.Ytidmbeeadbedaaa
