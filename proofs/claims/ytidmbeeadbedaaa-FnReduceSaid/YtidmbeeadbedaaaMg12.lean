/- Merged texts: a claim has a limit of files. -/
import Derived.Test.YtidmbeeadbedaaaSearch
import Derived.Test.YtidmbeeadbedaaaSearchOk

/- Walks over l15Word and DistanceBetween of the reference and isSearched of the program. -/
namespace Go.Proofs.Ytidmbeeadbedaaa
open Go.RowKit Go.Shelf

def word15 (l : Int) (s : ByteArray) (lim : Int) : Bool := wordOk l s && decide ((s.size : Int) ≤ lim)
def searched (l : Int) (rs : List RuleT) (s : ByteArray) (lim : Int) : Bool := searchOk l rs lim && word15 l s lim
theorem searched_out {l : Int} {rs : List RuleT} {s : ByteArray} {lim : Int} (h : searchOk l rs lim = true) (h2 : word15 l s lim = true) : rulesOk l rs = true ∧ good8 l s ∧ lim ≤ 8 := by
  unfold searchOk at h
  unfold word15 at h2
  simp only [Bool.and_eq_true, decide_eq_true_eq] at h h2
  have h3 := inB_out h.1.2.symm
  have h4 := wordOk_out h2.1
  exact ⟨h.1.1, ⟨h4.2.1, h4.2.2.2, by omega⟩, by omega⟩
/-- DistanceBetween, in plain words. -/
def distB (l : Int) (rs : List RuleT) (u v : ByteArray) (lim : Int) : Int := if searchOk l rs lim && word15 l u lim && word15 l v lim then (match fnd (srWords (srAll rs u lim)) v with
  | some i => (srAt (srAll rs u lim) i).2.2.2
  | none => -1) else -1
theorem srGo_good {l : Int} {rs : List RuleT} {lim : Int} (hro : rulesOk l rs = true) (hl : lim ≤ 8) : ∀ (f a : Nat) (S : List SrT), srGood l S → srGood l (srGo rs lim f a S)
  | 0, _, S, h => h
  | f + 1, a, S, h => by
    rw [srGo]
    split
    · next hlt => exact srGo_good hro hl f (a + 1) _ (srRow_good hro hl _ S h hlt (fun x hx => hx)).1
    · exact h
theorem srAll_good {l : Int} {rs : List RuleT} {s : ByteArray} {lim : Int} (hro : rulesOk l rs = true) (hl : lim ≤ 8) (hg : good8 l s) : srGood l (srAll rs s lim) := srGo_good hro hl _ _ _ ⟨by simp [srWords], fun t ht => by simp [srWords] at ht; rw [ht]; exact hg, fun i hi => by
  have : i = 0 := by simp at hi; omega
  subst this
  exact ⟨Int.le_refl _, Int.le_refl _⟩⟩

set_option maxRecDepth 100000 in
set_option maxHeartbeats 1000000 in
theorem specWord15_any (l : Int) (A : Option Addr) (n c : Nat) (s : ByteArray) (lim : Int) (w : World) (hs : s.size ≤ 1048576) :
    Calls Try.prog 114 #[.agg #[.int .i64 l, .slice A n c], .string s, .int .i64 lim] w (Kept w (.bool (word15 l s lim))) := by
  have hW0 : Below w.heap.size w (w.alloc (.cells #[.int .i64 l, .slice A n c] 25)) := (Below.refl _ _).alloc (Nat.le_refl _) _
  have hS0 := Bk.new w 25 #[.int .i64 l, .slice A n c]
  go_enter Try.func114, Try.ntmps114
  go_wp2_with fail
  refine (specWord_any l s _ (by omega)).mono ?_
  rintro e w1 ⟨rfl, rfl⟩
  obtain ⟨r1, hrr⟩ : ∃ r', r' = (wordOk l s) := ⟨_, rfl⟩
  rw [← hrr]
  have H1 := Lib.hid hrr
  clear hrr
  cases r1
  · go_wp2_with fail
    go_ret
    exact ⟨ret_bool (by rw [word15, ← H1.out]; rfl), hW0⟩
  · have e1 : word15 l s lim = decide ((s.size : Int) ≤ lim) := by rw [word15, ← H1.out]; rfl
    have E1 := Lib.hid e1
    clear e1
    go_wp2_with fail
    go_ret
    exact ⟨ret_bool (by rw [E1.out]), hW0⟩


set_option maxRecDepth 100000 in
set_option maxHeartbeats 1000000 in
theorem implSearched_any (l : Int) (A : Option Addr) (n c : Nat) (rs : List RuleT) (s : ByteArray) (lim : Int) (w : World) (hr : Rd w A (cellsRule rs)) (hn : n = rs.length) (hb : n ≤ 1048576) (hz : ∀ x ∈ rs, x.1.size ≤ 1048576 ∧ x.2.size ≤ 1048576) (hs : s.size ≤ 1048576) :
    Calls Try.prog 81 #[.agg #[.int .i64 l, .slice A n c], .string s, .int .i64 lim] w (Kept w (.bool (searched l rs s lim))) := by
  have hW0 : Below w.heap.size w (w.alloc (.cells #[.int .i64 l, .slice A n c] 25)) := (Below.refl _ _).alloc (Nat.le_refl _) _
  have hS0 := Bk.new w 25 #[.int .i64 l, .slice A n c]
  have Hr := Lib.hid hr
  clear hr
  have Hn := Lib.hid hn
  clear hn
  have Hz := Lib.hid hz
  clear hz
  go_enter Try.func81, Try.ntmps81
  go_wp2_with fail
  with_reducible refine (implSearchOk_any l A n c rs lim _ (Hr.out.keep hW0) Hn.out hb Hz.out).mono ?_
  rintro e w1 ⟨rfl, b1⟩
  have hW1 := hW0.trans (b1.mono hW0.size)
  have hS1 := hS0.below b1 hS0.lt
  have s0_1 : w1.cell? ⟨w.heap.size, 0, none⟩ = some (.int .i64 l) := by rw [hS1.cell]; rfl
  have s1_1 : w1.cell? ⟨w.heap.size, 1, none⟩ = some (.slice A n c) := by rw [hS1.cell]; rfl
  have sl_1 := hS1.lt
  clear b1
  obtain ⟨r1, hrr⟩ : ∃ r', r' = (searchOk l rs lim) := ⟨_, rfl⟩
  rw [← hrr]
  have H1 := Lib.hid hrr
  clear hrr
  cases r1
  · have e1 : searched l rs s lim = false := by rw [searched, ← H1.out]; rfl
    have E1 := Lib.hid e1
    clear e1
    go_wp2_with fail
    go_ret
    exact ⟨ret_bool (by rw [E1.out]), hW1⟩
  go_wp2_with fail
  refine (implWord_any l s _ (by omega)).mono ?_
  rintro e w2 ⟨rfl, rfl⟩
  obtain ⟨r2, hrr⟩ : ∃ r', r' = (wordOk l s) := ⟨_, rfl⟩
  rw [← hrr]
  have H2 := Lib.hid hrr
  clear hrr
  cases r2
  · have e1 : searched l rs s lim = false := by rw [searched, ← H1.out, word15, ← H2.out]; rfl
    have E1 := Lib.hid e1
    clear e1
    go_wp2_with fail
    go_ret
    exact ⟨ret_bool (by rw [E1.out]), hW1⟩
  · have e1 : searched l rs s lim = decide ((s.size : Int) ≤ lim) := by rw [searched, ← H1.out, word15, ← H2.out]; rfl
    have E1 := Lib.hid e1
    clear e1
    go_wp2_with fail
    go_ret
    exact ⟨ret_bool (by rw [E1.out]), hW1⟩

end Go.Proofs.Ytidmbeeadbedaaa

/- Plain words for the program's search: what its map holds of each word that is reached. No walk, no condition. -/
namespace Go.Proofs.Ytidmbeeadbedaaa
open Go.RowKit Go.Shelf

/-- From which word the i-th word was reached. -/
def srFromW (S : List SrT) (i : Nat) : ByteArray := if (srAt S i).2.1 = -1 then ⟨#[45]⟩ else (srAt S (srAt S i).2.1.toNat).1
abbrev ArrT : Type := ByteArray × LinkT × Int
def arrOf (S : List SrT) (i : Nat) : ArrT := (srFromW S i, (srAt S i).2.2.1, (srAt S i).2.2.2)
def arrV (x : ArrT) : Value := .agg #[.string x.1, .int .i64 x.2.1.1, .int .i64 x.2.1.2.1, .bool x.2.1.2.2, .int .i64 x.2.2]
def encA (x : ArrT) : DataW Unit := .agg [.lit (.string x.1.data.toList), .lit (.int .i64 x.2.1.1), .lit (.int .i64 x.2.1.2.1), .lit (.bool x.2.1.2.2), .lit (.int .i64 x.2.2)]
/-- How an arrival in the map reads. -/
def arrR (v : Value) : Option (DataW Unit × List MemPlace) := match v with
  | .agg cs => match cs.toList with
    | [.string f, .int .i64 a, .int .i64 b, .bool k, .int .i64 d] => some (encA (f, (a, b, k), d), [])
    | _ => none
  | _ => none
theorem arrR_mk (x : ArrT) : arrR (arrV x) = some (encA x, []) := rfl
theorem arrR_inv {v : Value} {x : ArrT} {ps : List MemPlace} (h : arrR v = some (encA x, ps)) : v = arrV x := by
  unfold arrR at h
  split at h
  · next cs =>
    split at h
    · next f a b k d he =>
      injection h with h
      injection h with h _
      obtain ⟨x0, ⟨x1, x2, x3⟩, x4⟩ := x
      simp only [encA, DataW.agg.injEq, List.cons.injEq, DataW.lit.injEq, Lit.string.injEq, Lit.int.injEq, Lit.bool.injEq, true_and, and_true] at h
      obtain ⟨h0, h1, h2, h3, h4⟩ := h
      have hf : f = x0 := by cases f; cases x0; simp_all
      subst hf h1 h2 h3 h4
      unfold arrV
      congr 1
      apply Array.toList_inj.1
      rw [he]
    · cases h
  · cases h
/-- Each word but the first was reached from one before it, by one link more. -/
def srWf (S : List SrT) : Prop := ∀ i, i < S.length → (i = 0 ∧ (srAt S i).2.1 = -1 ∧ (srAt S i).2.2.2 = 0) ∨ (0 ≤ (srAt S i).2.1 ∧ (srAt S i).2.1 < (i : Int) ∧ (srAt S i).2.2.2 = (srAt S (srAt S i).2.1.toNat).2.2.2 + 1)
theorem srAt_last (S : List SrT) (t : SrT) : srAt (S ++ [t]) S.length = t := by
  unfold srAt
  rw [List.getD_eq_getElem?_getD, List.getElem?_append_right (Nat.le_refl _), Nat.sub_self]
  rfl
theorem srWf_snoc {S : List SrT} {a : Nat} {y : ByteArray} {x : LinkT} (h : srWf S) (ha : a < S.length) : srWf (S ++ [(y, (a : Int), x, (srAt S a).2.2.2 + 1)]) := fun i hi => by
  rw [List.length_append] at hi
  by_cases hlt : i < S.length
  · rw [srAt_app hlt]
    rcases h i hlt with h1 | ⟨h1, h2, h3⟩
    · exact .inl h1
    · refine .inr ⟨h1, h2, ?_⟩
      rw [srAt_app (by omega)]
      exact h3
  · have hi2 : i = S.length := by simp at hi; omega
    subst hi2
    rw [srAt_last]
    refine .inr ⟨by dsimp only; omega, by dsimp only; omega, ?_⟩
    dsimp only
    rw [Int.toNat_natCast, srAt_app ha]
theorem srWf_add {rs : List RuleT} {a : Nat} {S : List SrT} {x : LinkT} (h : srWf S) (ha : a < S.length) : srWf (srAdd rs a S x) := by
  cases hf : fnd (srWords S) (linkS rs (srAt S a).1 x) with
  | some i => rw [srAdd_some hf]; exact h
  | none => rw [srAdd_none hf]; exact srWf_snoc h ha
theorem srFromW_app {S T : List SrT} {i : Nat} (h : srWf S) (hi : i < S.length) : srFromW (S ++ T) i = srFromW S i := by
  unfold srFromW
  rw [srAt_app hi]
  split
  · rfl
  · next hne =>
    rcases h i hi with h1 | ⟨h1, h2, _⟩
    · exact absurd h1.2.1 hne
    · rw [srAt_app (by omega)]
theorem arrOf_app {S T : List SrT} {i : Nat} (h : srWf S) (hi : i < S.length) : arrOf (S ++ T) i = arrOf S i := by
  unfold arrOf
  rw [srFromW_app h hi, srAt_app hi]
theorem arrOf_last {S : List SrT} {a : Nat} {y : ByteArray} {x : LinkT} {f : Int} (ha : a < S.length) : arrOf (S ++ [(y, (a : Int), x, f)]) S.length = ((srAt S a).1, x, f) := by
  unfold arrOf srFromW
  rw [srAt_last]
  dsimp only
  rw [if_neg (by omega), Int.toNat_natCast, srAt_app ha]
/-- The map holds what is known of each word that is reached. -/
def MapSr (D : DataW Unit) (S : List SrT) : Prop := Maps.IsMap D ∧ ∀ s : ByteArray, Maps.has D (.string s.data.toList) = (fnd (srWords S) s).isSome ∧ ∀ i z, fnd (srWords S) s = some i → D.atKey (.string s.data.toList) z = encA (arrOf S i)
theorem MapSr.snoc {D : DataW Unit} {S : List SrT} (h : MapSr D S) (hw : srWf S) {a : Nat} {y : ByteArray} {x : LinkT} {f : Int} (ha : a < S.length) (hy : fnd (srWords S) y = none) : MapSr (D.put (.string y.data.toList) (encA ((srAt S a).1, x, f))) (S ++ [(y, (a : Int), x, f)]) := by
  have hk : WideAt.IsKeyLit (Lit.string y.data.toList) := trivial
  have hws : srWords (S ++ [(y, (a : Int), x, f)]) = srWords S ++ [y] := by simp [srWords]
  refine ⟨?_, fun s => ?_⟩
  · obtain ⟨es, rfl⟩ := h.1
    exact ⟨_, rfl⟩
  rw [hws]
  by_cases hs : y = s
  · subst hs
    rw [fnd_snoc, hy, if_pos rfl]
    refine ⟨Maps.has_put_same h.1 hk _, fun i z hi => ?_⟩
    injection hi with hi
    subst hi
    rw [Maps.atKey_put_same h.1 hk, srWords_len, arrOf_last ha]
  · have hf : fnd (srWords S ++ [y]) s = fnd (srWords S) s := by
      rw [fnd_snoc]
      cases fnd (srWords S) s with
      | some i => rfl
      | none => simp [hs]
    rw [hf, Maps.has_put_other (key_ne hs)]
    refine ⟨(h.2 s).1, fun i z hi => ?_⟩
    rw [Maps.atKey_put_other (key_ne hs), (h.2 s).2 i z hi, arrOf_app hw (by rw [← srWords_len]; exact fnd_lt hi)]
theorem MapSr.first (s : ByteArray) : MapSr ((DataW.map []).put (.string s.data.toList) (encA (⟨#[45]⟩, (0, 0, false), 0))) [(s, -1, (0, 0, false), 0)] := by
  have hk : WideAt.IsKeyLit (Lit.string s.data.toList) := trivial
  refine ⟨⟨_, rfl⟩, fun t => ?_⟩
  have hws : srWords [(s, -1, (0, 0, false), 0)] = [s] := rfl
  rw [hws]
  by_cases hs : s = t
  · subst hs
    have hf : fnd [s] s = some 0 := by rw [fnd, if_pos rfl]
    rw [hf]
    refine ⟨Maps.has_put_same ⟨_, rfl⟩ hk _, fun i z hi => ?_⟩
    injection hi with hi
    subst hi
    rw [Maps.atKey_put_same ⟨_, rfl⟩ hk]
    rfl
  · have hf : fnd [s] t = none := by rw [fnd, if_neg hs]; rfl
    rw [hf, Maps.has_put_other (key_ne hs)]
    exact ⟨rfl, fun i z hi => by cases hi⟩

theorem fnd_nodup {ws : List ByteArray} (hn : ws.Nodup) {a : Nat} (h : a < ws.length) : fnd ws ws[a] = some a := by
  refine fnd_hit h (fun k y hk hy e => ?_) (List.getElem?_eq_getElem h)
  have hk2 : k < ws.length := by omega
  have h1 := (List.pairwise_iff_getElem.1 hn) k a hk2 h hk
  rw [List.getElem?_eq_getElem hk2] at hy
  injection hy with hy
  exact h1 (hy.trans e)

end Go.Proofs.Ytidmbeeadbedaaa
