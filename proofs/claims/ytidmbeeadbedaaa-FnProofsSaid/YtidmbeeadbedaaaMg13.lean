/- Merged texts: a claim has a limit of files. -/
import Derived.Test.YtidmbeeadbedaaaMkB
import Derived.Test.YtidmbeeadbedaaaMg11
import Derived.Test.YtidmbeeadbedaaaMg10
import Derived.Test.YtidmbeeadbedaaaTrace
import Derived.Test.YtidmbeeadbedaaaNorm
import Derived.Test.YtidmbeeadbedaaaDrw
import Derived.Test.YtidmbeeadbedaaaMkD
import Derived.Test.YtidmbeeadbedaaaMg2
import Derived.Test.YtidmbeeadbedaaaMg3
import Derived.Test.YtidmbeeadbedaaaMg5
import Derived.Test.YtidmbeeadbedaaaMg1

/- A slice of bytes that came in, opened. -/
namespace Go.Proofs.Ytidmbeeadbedaaa
open Go.ChangeShapes Go.WideShapes Go.ChangeAt Go.RowKit Go.Shelf

section
variable {H : Type} {enc : TypeId × Value → H} {w : World} {base : Nat} {spare : Nat → Bool} {held : Bool}
/-- A slice of bytes that came in. -/
theorem open_byteS {a : Option Addr} {n c : Nat} {d : DataW H} {p : List MemPlace} (h : DataW.Trod enc Try.prog w 0 (fun _ => true) true 22 (.slice a n c) d p) :
    ∃ zs : List Int, Rd w a (u8c zs) ∧ n = zs.length ∧ n ≤ maxLen ∧ ∀ z ∈ zs, (Lit.int .u8 z).wf = true := by
  obtain ⟨fuel, hf⟩ := h
  rcases open_ints Try.underlying22 Try.underlying5 (by kernel_rfl) hf with ⟨hcs, _⟩ | ⟨x, l, cc, zs, hcs, _, hl, hm, hz, _, hcell, hwz⟩
  · simp [Value.cells] at hcs
    obtain ⟨rfl, rfl, rfl⟩ := hcs
    exact ⟨[], Rd.nil _ _, rfl, by unfold maxLen; omega, by simp⟩
  · simp [Value.cells] at hcs
    obtain ⟨rfl, rfl, rfl⟩ := hcs
    have hz' : zs.length = c := by simpa using hz
    refine ⟨zs.take n, rd_of_cells fun j u hu => ?_, by rw [List.length_take]; omega, Nat.le_trans hl hm, fun z hz => hwz z (List.mem_of_mem_take hz)⟩
    simp only [u8c, List.getElem?_map, List.getElem?_take] at hu
    split at hu
    · have hj : j < zs.length := by omega
      rw [hcell j hj]
      simp [hj] at hu ⊢
      exact hu
    · simp at hu
end
theorem byte_wf {z : Int} (h : (Lit.int .u8 z).wf = true) : 0 ≤ z ∧ z ≤ 255 := by
  have e1 : IntKind.u8.min = 0 := rfl
  have e2 : IntKind.u8.max = 255 := rfl
  simp [Lit.wf, e1, e2] at h
  exact h

end Go.Proofs.Ytidmbeeadbedaaa

/- Plain words for CountReached, and for a map that holds true for each word of a list. No walk, no condition. -/
namespace Go.Proofs.Ytidmbeeadbedaaa
open Go.RowKit Go.Shelf

/-- The map holds true for each word of the list and nothing else. -/
def MapT (D : DataW Unit) (ws : List ByteArray) : Prop := Maps.IsMap D ∧ ∀ s : ByteArray, Maps.has D (.string s.data.toList) = (fnd ws s).isSome ∧ ∀ z, (fnd ws s).isSome = true → D.atKey (.string s.data.toList) z = .lit (.bool true)
theorem fnd_snoc_some (x s : ByteArray) (ws : List ByteArray) : (fnd (ws ++ [x]) s).isSome = ((fnd ws s).isSome || decide (x = s)) := by
  rw [fnd_snoc]
  cases fnd ws s with
  | some i => rfl
  | none =>
    by_cases h : x = s
    · simp [h]
    · simp [h]
theorem MapT.snoc {D : DataW Unit} {ws : List ByteArray} (h : MapT D ws) (x : ByteArray) : MapT (D.put (.string x.data.toList) (.lit (.bool true))) (ws ++ [x]) := by
  have hk : WideAt.IsKeyLit (Lit.string x.data.toList) := trivial
  refine ⟨?_, fun s => ?_⟩
  · obtain ⟨es, rfl⟩ := h.1
    exact ⟨_, rfl⟩
  rw [fnd_snoc_some]
  by_cases hs : x = s
  · subst hs
    rw [decide_eq_true rfl, Bool.or_true]
    exact ⟨Maps.has_put_same h.1 hk _, fun z _ => Maps.atKey_put_same h.1 hk _ z⟩
  · rw [decide_eq_false hs, Bool.or_false, Maps.has_put_other (key_ne hs)]
    refine ⟨(h.2 s).1, fun z hi => ?_⟩
    rw [Maps.atKey_put_other (key_ne hs)]
    exact (h.2 s).2 z hi
theorem MapT.nil : MapT (.map []) [] := ⟨⟨_, rfl⟩, fun s => ⟨rfl, fun z hi => by cases hi⟩⟩

/-- The words that are reached, in order. -/
def wAt (Q : List ByteArray) (a : Nat) : ByteArray := Q.getD a ⟨#[]⟩
end Go.Proofs.Ytidmbeeadbedaaa

/- Plain words for the law FnReduce: reduction ends at a reduced word that is not greater, by the steps that are told; few words are reached. No walk, no condition. -/
namespace Go.Proofs.Ytidmbeeadbedaaa
open Go.RowKit Go.Shelf

theorem wordOk_mk {k : Int} {s : ByteArray} (h1 : 1 ≤ k) (h4 : k ≤ 4) (hs : s.size ≤ 16) (hl : lettersOk k s = true) : wordOk k s = true := by
  unfold wordOk inB
  simp only [Bool.and_eq_true, decide_eq_true_eq]
  exact ⟨⟨⟨h1, h4⟩, hs⟩, hl⟩
theorem sys_in {l : Int} {rs : List RuleT} (h : systemOk l rs = true) : 1 ≤ l ∧ l ≤ 4 ∧ rs.length ≤ 12 := by
  have h1 := sys_rules h
  have h2 := rulesOk_12 h1
  unfold rulesOk at h1
  simp only [Bool.and_eq_true] at h1
  have := inB_out h1.1.1.symm
  exact ⟨this.1, this.2, h2⟩
/-- A step of an ordered system from a good word: it can be made, it leads to a good word that is no longer. -/
theorem step_good {l : Int} {rs : List RuleT} {s : ByteArray} {x : StepT} (hsy : systemOk l rs = true) (hw : wordOk l s = true) (hx : x ∈ stepAcc rs s s.size) : applyOk rs s x = true ∧ wordOk l (applyS rs s x) = true ∧ (applyS rs s x).size ≤ s.size := by
  obtain ⟨k, p, rfl, hk, _, hh⟩ := mem_step hx
  obtain ⟨hl4, h1, h2, h3, h4, h5⟩ := sys_rule hsy hk
  obtain ⟨w1, w2, w3, w4⟩ := wordOk_out hw
  unfold hitAt at hh
  obtain ⟨hp, _⟩ := has_parts hh
  have hle : (ruleAt rs k).2.size ≤ (ruleAt rs k).1.size := by
    unfold lessW at h5
    split at h5
    · omega
    · have := of_decide_eq_true h5; omega
  have hok : replOk s (p : Int) ((ruleAt rs k).1.size : Int) (ruleAt rs k).2 = true := by
    unfold replOk
    simp only [Bool.and_eq_true, decide_eq_true_eq]
    omega
  have e : applyS rs s ((k : Int), (p : Int)) = s.extract 0 p ++ (ruleAt rs k).2 ++ s.extract (p + (ruleAt rs k).1.size) s.size := by
    unfold applyS
    dsimp only
    rw [Int.toNat_natCast, replS_yes hok]
    congr 1
  have hsz : (applyS rs s ((k : Int), (p : Int))).size ≤ s.size := by
    rw [e, ByteArray.size_append, ByteArray.size_append, ByteArray.size_extract, ByteArray.size_extract]
    omega
  refine ⟨?_, wordOk_mk w1 w2 (by omega) ?_, hsz⟩
  · unfold applyOk
    dsimp only
    rw [Int.toNat_natCast]
    exact hok
  · rw [e]
    exact letters_app (letters_app (letters_ext w4 _ _) h4) (letters_ext w4 _ _)

/-- What the end of a run of an ordered system is, whichever steps are made. -/
theorem end_good {l : Int} {rs : List RuleT} {pick : ByteArray → Option StepT} (hsy : systemOk l rs = true) (hp : ∀ s x, pick s = some x → x ∈ stepAcc rs s s.size) : ∀ (n : Nat) (s : ByteArray), val4 s ≤ n → wordOk l s = true →
    wordOk l (endF pick rs s).2 = true ∧ pick (endF pick rs s).2 = none ∧ (endF pick rs s).2.size ≤ s.size ∧ (((endF pick rs s).1 = [] ∧ (endF pick rs s).2 = s ∧ pick s = none) ∨ ((endF pick rs s).1 ≠ [] ∧ val4 (endF pick rs s).2 < val4 s ∧ (pick s).isSome = true)) := by
  have hv : ∀ s x, pick s = some x → val4 (applyS rs s x) < val4 s := fun s x h => step_val hsy (hp s x h)
  intro n
  induction n with
  | zero => intro s h; have := val4_pos s; omega
  | succ n ih =>
    intro s hn hw
    cases h : pick s with
    | none => rw [endF_none h]; exact ⟨hw, h, Nat.le_refl _, .inl ⟨rfl, rfl, rfl⟩⟩
    | some x =>
      have h1 := hv s x h
      obtain ⟨-, h2, h3⟩ := step_good hsy hw (hp s x h)
      obtain ⟨a, b, c, d⟩ := ih (applyS rs s x) (by omega) h2
      rw [endF_some hv h]
      refine ⟨a, b, by dsimp only; omega, .inr ⟨by simp, ?_, rfl⟩⟩
      rcases d with ⟨-, d, -⟩ | ⟨-, d, -⟩
      · dsimp only; rw [d]; exact h1
      · dsimp only; omega
theorem norm_good {l : Int} {rs : List RuleT} {s : ByteArray} (hsy : systemOk l rs = true) (hw : wordOk l s = true) :
    wordOk l (normS rs s) = true ∧ firstS rs (normS rs s) = none ∧ (normS rs s).size ≤ s.size ∧ ((traceS rs s = [] ∧ normS rs s = s ∧ firstS rs s = none) ∨ (traceS rs s ≠ [] ∧ val4 (normS rs s) < val4 s ∧ (firstS rs s).isSome = true)) :=
  end_good hsy (fun _ _ => firstS_mem) _ s (Nat.le_refl _) hw
theorem first_none {rs : List RuleT} {s : ByteArray} : firstS rs s = none ↔ stepAcc rs s s.size = [] := by
  unfold firstS
  exact List.head?_eq_none_iff
theorem takes_mk {l : Int} {rs : List RuleT} {s : ByteArray} (hsy : systemOk l rs = true) (hw : wordOk l s = true) : takesOk l rs s = true := by
  unfold takesOk; rw [hsy, hw]; rfl
end Go.Proofs.Ytidmbeeadbedaaa

/- What the laws' walks share: a system that the law holds in a variable, over rules in memory of its own. -/
namespace Go.Proofs.Ytidmbeeadbedaaa
open Go.RowKit Go.Shelf

/-- The variable b holds the system; its rules can be read; all that was there at w is as it was. -/
structure SysSt (w W : World) (b : Nat) (l : Int) (B : Option Addr) (k d : Nat) (rs : List RuleT) : Prop where
  bk : Bk W b 25 #[.int .i64 l, .slice B k d]
  rd : Rd W B (cellsRule rs)
  low : Below w.heap.size w W
theorem SysSt.below {w W W' : World} {b : Nat} {l : Int} {B : Option Addr} {k d : Nat} {rs : List RuleT} (h : SysSt w W b l B k d rs) (hb : Below W.heap.size W W') : SysSt w W' b l B k d rs :=
  ⟨h.bk.below hb h.bk.lt, h.rd.keep hb, h.low.trans (hb.mono h.low.size)⟩
theorem SysSt.alloc {w W : World} {b : Nat} {l : Int} {B : Option Addr} {k d : Nat} {rs : List RuleT} (h : SysSt w W b l B k d rs) (o : Obj) : SysSt w (W.alloc o) b l B k d rs := h.below ((Below.refl _ _).alloc (Nat.le_refl _) o)
theorem SysSt.drew {w W : World} {b : Nat} {l : Int} {B : Option Addr} {k d : Nat} {rs : List RuleT} (h : SysSt w W b l B k d rs) : SysSt w W.drew b l B k d rs := h.below (Below.refl _ _).drew
theorem SysSt.new {w W : World} {l : Int} {B : Option Addr} {k d : Nat} {rs : List RuleT} (hO : W.ownsRow w.heap.size 156 2 (.slice B k d) k (cellsRule rs)) (hb : Below w.heap.size w W) : SysSt w (W.alloc (.cells #[.int .i64 l, .slice B k d] 25)) W.heap.size l B k d rs :=
  ⟨Bk.new _ _ _, (Rd.of_own hO).keep ((Below.refl _ _).alloc (Nat.le_refl _) _), hb.alloc hb.size _⟩
theorem sys_sizes {l : Int} {rs : List RuleT} (h : rulesOk l rs = true) : ∀ x ∈ rs, x.1.size ≤ 1048576 ∧ x.2.size ≤ 1048576 := fun x hx => by
  have := rulesOk_side h hx
  omega

end Go.Proofs.Ytidmbeeadbedaaa
