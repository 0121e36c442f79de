/- Merged texts: a claim has a limit of files. -/
import Derived.Test.YtidmbeeadbedaaaSearchP
import Derived.Deep.AppendLies
import Derived.Test.YtidmbeeadbedaaaMg9

/- Walks over l15Search of the reference: the words that are reached, in order, with what is known of each. -/
namespace Go.Proofs.Ytidmbeeadbedaaa
open Go.RowKit Go.Shelf

/-- A row of the call's own in block g. -/
def OwnG (w : World) (g base : Nat) (t : TypeId) (m n : Nat) (xs : List Value) (c : Nat) : Prop := w.ownsRow base t m (.slice (some ⟨g, 0, none⟩) n c) n xs ∧ g < w.heap.size
theorem OwnG.grown {w w' : World} {g base : Nat} {t : TypeId} {m n : Nat} {xs : List Value} {c : Nat} (h : OwnG w g base t m n xs c) {row : Nat} (hg : w.grownBy w' (some row)) (hne : g ≠ row) : OwnG w' g base t m n xs c :=
  ⟨h.1.kept hg (.inr (by simp [Value.ownBlock]; exact hne)), Nat.lt_of_lt_of_le h.2 hg.size⟩
theorem OwnG.below {w w' : World} {g base : Nat} {t : TypeId} {m n : Nat} {xs : List Value} {c : Nat} (h : OwnG w g base t m n xs c) (hb : Below w.heap.size w w') : OwnG w' g base t m n xs c :=
  ⟨own_keep h.1 hb (Nat.le_refl _), Nat.lt_of_lt_of_le h.2 hb.size⟩
theorem OwnG.rd {w : World} {g base : Nat} {t : TypeId} {m n : Nat} {xs : List Value} {c : Nat} (h : OwnG w g base t m n xs c) : Rd w (some ⟨g, 0, none⟩) xs := Rd.of_own h.1
theorem OwnG.new (w : World) (t : TypeId) (cs : Array Value) (base n m : Nat) (hb : base ≤ w.heap.size) (hs : cs.size = n * m) (hm : n ≤ maxLen) : OwnG (w.alloc (.cells cs t)) w.heap.size base t m n cs.toList n :=
  ⟨own_of_bk (Bk.new w t cs) hb hs hm, by simp⟩
theorem Rd.grownG {w w' : World} {g : Nat} {xs : List Value} (h : Rd w (some ⟨g, 0, none⟩) xs) {row : Nat} (hg : w.grownBy w' (some row)) (hne : g ≠ row) : Rd w' (some ⟨g, 0, none⟩) xs := h.grown hg (by
  intro a ha e
  injection ha with ha
  subst ha
  injection e with e
  exact hne e.symm)
theorem Bk.grownG {w w' : World} {g : Nat} {t : TypeId} {cs : Array Value} (h : Bk w g t cs) {row : Nat} (hg : w.grownBy w' (some row)) (hne : g ≠ row) : Bk w' g t cs := h.grown hg (by
  intro e
  injection e with e
  exact hne e)

/-- append of one element that lies in the newest block, onto a row of the call's own: where it lies afterwards, and that all else stays. -/
theorem wpList_app4 {P : Program} {ops : Array Oper} {rest : List Oper} {o : Oper} {a : Act} {Q : Exit → Act → World → Prop} (w w0 : World) (hgd : o.guard = none) (s x : Operand) (t : TypeId)
    (ho : o.op = .call { callee := .builtin .append, args := #[s, x], argTypes := #[t, t] }) (base e size bytes : Nat) (z : Value) (ht : P.underlying t = some (.slice e))
    (hinfo : (P.info? e).map (fun i => (i.zero, i.size, i.bytes)) = some (some z, size, bytes)) (hzs : z.cells.size = size) (hsz : 0 < size) (g n c : Nat) (xs : List Value) (cs : Array Value)
    (hw : w = w0.alloc (.cells cs e)) (hs : a.eval s = .slice (some ⟨g, 0, none⟩) n c) (hx : a.eval x = .slice (some ⟨w0.heap.size, 0, none⟩) 1 1) (hown : OwnG w0 g base e size n xs c) (hcs : cs.size = size) (h1 : ∀ u ∈ cs.toList, u.oneCell' = true)
    (hn : (n + 1) * bytes ≤ 140737488355328) (hm : n + 1 ≤ maxLen) (hbase : base ≤ w0.heap.size)
    (h : ∀ g' c' w', OwnG w' g' base e size (n + 1) (xs ++ cs.toList) c' → w0.grownBy w' (some g) → (g' = g ∨ w0.heap.size ≤ g') → wpList P ops Q rest (a.put o.dst (.slice (some ⟨g', 0, none⟩) (n + 1) c')) w') :
    wpList P ops Q (o :: rest) a w := by
  subst hw
  obtain ⟨i0, hi, hz0, hz1, hz2⟩ := info_parts hinfo
  refine wpList_append_lies _ hgd s x t ho base e i0 z size bytes ht hi hz0 hz1 hz2 hzs hsz _ n xs hs (hown.1.alloc _) ⟨w0.heap.size, 0, none⟩ 1 1 cs.toList hx (by simpa using hcs) ?_ h1 (by omega) hm hn (by simp; omega) _ rfl ?_
  · intro j u hu
    have e' : (⟨w0.heap.size, 0, none⟩ : Addr).add j = ⟨w0.heap.size, j, none⟩ := by unfold Addr.add; split <;> simp_all
    rw [e', (Bk.new w0 e cs).cell j]
    simpa using hu
  · intro g' c' w' hown' hgrow hat hlt
    have hgb : w0.grownBy w' (some g) := (World.grownBy_alloc w0 _ (some g)).trans (by simpa [Value.ownBlock] using hgrow)
    refine h g' c' w' ⟨hown', hlt⟩ hgb ?_
    rcases hat with hat | hat
    · left
      simp [Value.ownBlock] at hat
      exact hat.symm
    · right
      rw [hat]; simp

theorem OwnG.cast {w : World} {g g' base : Nat} {t : TypeId} {m n : Nat} {xs : List Value} {c : Nat} (h : OwnG w g base t m n xs c) (e : g = g') : OwnG w g' base t m n xs c := e ▸ h
theorem OwnG.alloc {w : World} {g base : Nat} {t : TypeId} {m n : Nat} {xs : List Value} {c : Nat} (h : OwnG w g base t m n xs c) (o : Obj) : OwnG (w.alloc o) g base t m n xs c := h.below ((Below.refl _ _).alloc (Nat.le_refl _) o)
def srFar (S : List SrT) : List Int := S.map (·.2.2.2)
theorem srAt_cell {S : List SrT} {a : Nat} (h : a < S.length) : (strs (srWords S))[a]? = some (.string (srAt S a).1) ∧ (ints (srFar S))[a]? = some (.int .i64 (srAt S a).2.2.2) := by
  unfold srAt
  rw [List.getD_eq_getElem?_getD, List.getElem?_eq_getElem h]
  constructor
  · simp [strs, srWords, h]
  · simp [ints, srFar, h]
theorem OwnG.cell {w : World} {g base : Nat} {t : TypeId} {m n : Nat} {xs : List Value} {c : Nat} (h : OwnG w g base t m n xs c) {j : Nat} {u : Value} (hu : xs[j]? = some u) : w.cell? ⟨g, j, none⟩ = some u := by
  obtain ⟨b, o, e, _, hc⟩ := h.rd (by intro e; rw [e] at hu; cases hu)
  injection e with e
  injection e with e1 e2
  subst e1 e2
  have := hc j u hu
  rwa [Nat.zero_add] at this

end Go.Proofs.Ytidmbeeadbedaaa

/- Walks over l15Word and DistanceBetween of the reference and isSearched of the program. -/
namespace Go.Proofs.Ytidmbeeadbedaaa
open Go.RowKit Go.Shelf

def word15 (l : Int) (s : ByteArray) (lim : Int) : Bool := wordOk l s && decide ((s.size : Int) ≤ lim)
def searched (l : Int) (rs : List RuleT) (s : ByteArray) (lim : Int) : Bool := searchOk l rs lim && word15 l s lim
theorem searched_out {l : Int} {rs : List RuleT} {s : ByteArray} {lim : Int} (h : searchOk l rs lim = true) (h2 : word15 l s lim = true) : rulesOk l rs = true ∧ good8 l s ∧ lim ≤ 8 := by
  unfold searchOk at h
  unfold word15 at h2
  simp only [Bool.and_eq_true, decide_eq_true_eq] at h h2
  have h3 := inB_out h.1.2.symm
  have h4 := wordOk_out h2.1
  exact ⟨h.1.1, ⟨h4.2.1, h4.2.2.2, by omega⟩, by omega⟩
/-- DistanceBetween, in plain words. -/
def distB (l : Int) (rs : List RuleT) (u v : ByteArray) (lim : Int) : Int := if searchOk l rs lim && word15 l u lim && word15 l v lim then (match fnd (srWords (srAll rs u lim)) v with
  | some i => (srAt (srAll rs u lim) i).2.2.2
  | none => -1) else -1
theorem srGo_good {l : Int} {rs : List RuleT} {lim : Int} (hro : rulesOk l rs = true) (hl : lim ≤ 8) : ∀ (f a : Nat) (S : List SrT), srGood l S → srGood l (srGo rs lim f a S)
  | 0, _, S, h => h
  | f + 1, a, S, h => by
    rw [srGo]
    split
    · next hlt => exact srGo_good hro hl f (a + 1) _ (srRow_good hro hl _ S h hlt (fun x hx => hx)).1
    · exact h
theorem srAll_good {l : Int} {rs : List RuleT} {s : ByteArray} {lim : Int} (hro : rulesOk l rs = true) (hl : lim ≤ 8) (hg : good8 l s) : srGood l (srAll rs s lim) := srGo_good hro hl _ _ _ ⟨by simp [srWords], fun t ht => by simp [srWords] at ht; rw [ht]; exact hg, fun i hi => by
  have : i = 0 := by simp at hi; omega
  subst this
  exact ⟨Int.le_refl _, Int.le_refl _⟩⟩

set_option maxRecDepth 100000 in
set_option maxHeartbeats 1000000 in
theorem implSearched_any (l : Int) (A : Option Addr) (n c : Nat) (rs : List RuleT) (s : ByteArray) (lim : Int) (w : World) (hr : Rd w A (cellsRule rs)) (hn : n = rs.length) (hb : n ≤ 1048576) (hz : ∀ x ∈ rs, x.1.size ≤ 1048576 ∧ x.2.size ≤ 1048576) (hs : s.size ≤ 1048576) :
    Calls Try.prog 81 #[.agg #[.int .i64 l, .slice A n c], .string s, .int .i64 lim] w (Kept w (.bool (searched l rs s lim))) := by
  have hW0 : Below w.heap.size w (w.alloc (.cells #[.int .i64 l, .slice A n c] 25)) := (Below.refl _ _).alloc (Nat.le_refl _) _
  have hS0 := Bk.new w 25 #[.int .i64 l, .slice A n c]
  have Hr := Lib.hid hr
  clear hr
  have Hn := Lib.hid hn
  clear hn
  have Hz := Lib.hid hz
  clear hz
  go_enter Try.func81, Try.ntmps81
  go_wp2_with fail
  with_reducible refine (implSearchOk_any l A n c rs lim _ (Hr.out.keep hW0) Hn.out hb Hz.out).mono ?_
  rintro e w1 ⟨rfl, b1⟩
  have hW1 := hW0.trans (b1.mono hW0.size)
  have hS1 := hS0.below b1 hS0.lt
  have s0_1 : w1.cell? ⟨w.heap.size, 0, none⟩ = some (.int .i64 l) := by rw [hS1.cell]; rfl
  have s1_1 : w1.cell? ⟨w.heap.size, 1, none⟩ = some (.slice A n c) := by rw [hS1.cell]; rfl
  have sl_1 := hS1.lt
  clear b1
  obtain ⟨r1, hrr⟩ : ∃ r', r' = (searchOk l rs lim) := ⟨_, rfl⟩
  rw [← hrr]
  have H1 := Lib.hid hrr
  clear hrr
  cases r1
  · have e1 : searched l rs s lim = false := by rw [searched, ← H1.out]; rfl
    have E1 := Lib.hid e1
    clear e1
    go_wp2_with fail
    go_ret
    exact ⟨ret_bool (by rw [E1.out]), hW1⟩
  go_wp2_with fail
  refine (implWord_any l s _ (by omega)).mono ?_
  rintro e w2 ⟨rfl, rfl⟩
  obtain ⟨r2, hrr⟩ : ∃ r', r' = (wordOk l s) := ⟨_, rfl⟩
  rw [← hrr]
  have H2 := Lib.hid hrr
  clear hrr
  cases r2
  · have e1 : searched l rs s lim = false := by rw [searched, ← H1.out, word15, ← H2.out]; rfl
    have E1 := Lib.hid e1
    clear e1
    go_wp2_with fail
    go_ret
    exact ⟨ret_bool (by rw [E1.out]), hW1⟩
  · have e1 : searched l rs s lim = decide ((s.size : Int) ≤ lim) := by rw [searched, ← H1.out, word15, ← H2.out]; rfl
    have E1 := Lib.hid e1
    clear e1
    go_wp2_with fail
    go_ret
    exact ⟨ret_bool (by rw [E1.out]), hW1⟩

end Go.Proofs.Ytidmbeeadbedaaa
