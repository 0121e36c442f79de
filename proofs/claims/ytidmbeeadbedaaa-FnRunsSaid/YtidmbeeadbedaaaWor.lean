/- Walks over WordsOnRun (the program's and the reference's): both hand back the same words. -/
import Derived.Test.YtidmbeeadbedaaaRun
import Derived.Test.YtidmbeeadbedaaaMg8
import Derived.Deep.RegionHeld3
import Derived.Deep.RegionLaw
namespace Go.Proofs.Ytidmbeeadbedaaa
open Go.RowKit Go.Shelf

/-- The j-th word. -/
def worAt (pick : ByteArray → Option StepT) (rs : List RuleT) : Nat → ByteArray → ByteArray
  | 0, s => s
  | j + 1, s => st16 rs (worAt pick rs j s) (pick (worAt pick rs j s))
def worTo (pick : ByteArray → Option StepT) (rs : List RuleT) (s : ByteArray) (j : Nat) : List ByteArray := (List.range (j + 1)).map fun i => worAt pick rs i s
theorem worTo_succ (pick : ByteArray → Option StepT) (rs : List RuleT) (s : ByteArray) (j : Nat) : worTo pick rs s (j + 1) = worTo pick rs s j ++ [worAt pick rs (j + 1) s] := by rw [worTo, List.range_succ, List.map_append]; rfl
theorem worTo_len (pick : ByteArray → Option StepT) (rs : List RuleT) (s : ByteArray) (j : Nat) : (worTo pick rs s j).length = j + 1 := by simp [worTo]
/-- WordsOnRun, in plain words. -/
def worL (l : Int) (rs : List RuleT) (s : ByteArray) (m : Int) : List ByteArray := if runOk l rs s && inB m 0 500 then worTo (firstS rs) rs s (runR (firstS rs) rs m.toNat 0 s).2.1.toNat else []
theorem runR_steps {pick : ByteArray → Option StepT} {rs : List RuleT} : ∀ (k n : Nat) (s : ByteArray), ∃ t, (runR pick rs k n s).2.1 = ((n + t : Nat) : Int) ∧ t ≤ k ∧ ∀ j, j < t → ∃ x, pick (worAt pick rs j s) = some x ∧ applyOk rs (worAt pick rs j s) x = true := by
  intro k
  induction k with
  | zero =>
    intro n s
    refine ⟨0, ?_, Nat.le_refl _, fun j hj => absurd hj (Nat.not_lt_zero _)⟩
    cases h : pick s with
    | none => rw [runR_none h]; rfl
    | some x => rw [runR_full h]; rfl
  | succ k ih =>
    intro n s
    cases h : pick s with
    | none => exact ⟨0, by rw [runR_none h]; rfl, Nat.zero_le _, fun j hj => absurd hj (Nat.not_lt_zero _)⟩
    | some x =>
      cases ho : applyOk rs s x with
      | false => exact ⟨0, by rw [runR_long (by omega) h ho]; rfl, Nat.zero_le _, fun j hj => absurd hj (Nat.not_lt_zero _)⟩
      | true =>
        obtain ⟨t, h1, h2, h3⟩ := ih (n + 1) (applyS rs s x)
        have hshift : ∀ j, worAt pick rs (j + 1) s = worAt pick rs j (applyS rs s x) := by
          intro j
          induction j with
          | zero => rw [worAt, worAt, worAt, h]; rfl
          | succ j ihj => rw [worAt, ihj, worAt]
        refine ⟨t + 1, ?_, by omega, ?_⟩
        · rw [runR_go (by omega) h ho, Nat.add_sub_cancel, h1]
          congr 1
          omega
        · intro j hj
          cases j with
          | zero => exact ⟨x, h, ho⟩
          | succ j =>
            rw [hshift j]
            exact h3 j (by omega)
theorem worAt_size {pick : ByteArray → Option StepT} {rs : List RuleT} (hp : ∀ s x, pick s = some x → x ∈ stepAcc rs s s.size) (s : ByteArray) (hs : s.size ≤ 1048576) (j : Nat) : (worAt pick rs j s).size ≤ 1048576 := by
  induction j with
  | zero => exact hs
  | succ j ih =>
    rw [worAt]
    cases h : pick (worAt pick rs j s) with
    | none => exact ih
    | some x => have := apply_size (hp _ _ h); show (applyS rs _ x).size ≤ _; omega
theorem nw_st {rs : List RuleT} {s : ByteArray} {x : StepT} (h : applyOk rs s x = true) : nwS rs s (some x) = st16 rs s (some x) := by rw [nwS, h]; rfl


set_option maxRecDepth 100000 in
set_option maxHeartbeats 2000000 in
theorem wordsOn_any (pick : ByteArray → Option StepT) (rs : List RuleT) (s : ByteArray) (t : Nat) (g : FuncId) (u : Value) (w : World) (eg : ∀ args w, (callFunc g args).run Try.prog w = .ok (.enter g args) w) (hs : s.size ≤ 1048576) (ht : t ≤ 500) (hp : ∀ s x, pick s = some x → x ∈ stepAcc rs s s.size)
    (hval : ∀ j, j < t → ∃ x, pick (worAt pick rs j s) = some x ∧ applyOk rs (worAt pick rs j s) x = true)
    (hg : ∀ (W : World) (s : ByteArray), s.size ≤ 1048576 → Below w.heap.size w W → Calls Try.prog g #[u, .string s] W (Kept W (.tuple #[.string (nwS rs s (pick s)), .int .i64 (nwC rs s (pick s))]))) :
    Calls Try.prog 100 #[.string s, .int .i64 (t : Int), .func (.func g) #[u] #[]] w (MadeSl w 9 1 (t + 1) (strs (worTo pick rs s t))) := by
  have hW0 : Below w.heap.size w (w.alloc (.cells #[.string s] 9)) := (Below.refl _ _).alloc (Nat.le_refl _) _
  have hO0 := own_of_bk (base := w.heap.size) (m := 1) (n := 1) (Bk.new w 9 #[.string s]) (Nat.le_refl _) rfl (by unfold maxLen; omega)
  have Hg := Lib.hid hg
  clear hg
  have Hp := Lib.hid hp
  clear hp
  have Hval := Lib.hid hval
  clear hval
  have HW0 := Lib.hid hW0
  clear hW0
  have HO0 := Lib.hid hO0
  clear hO0
  go_enter Try.func100, Try.ntmps100
  go_wp2_with fail
  go_loopw [0, 7, 11] (fun v o i wr => ∃ (j : Nat) (C : Option Addr) (e : Nat), v = .string (worAt pick rs j s) ∧ o = .slice C (j + 1) e ∧ i = .int .i64 j ∧ j ≤ t ∧ wr.ownsRow w.heap.size 9 1 (.slice C (j + 1) e) (j + 1) (strs (worTo pick rs s j)) ∧ Below w.heap.size w wr) (fun _ _ i _ => t - (intOf i).toNat)
  case atStart => exact ⟨0, _, _, rfl, rfl, rfl, Nat.zero_le _, HO0.out, HW0.out⟩
  case round =>
    clear HO0 HW0
    obtain ⟨j, C, e, rfl, rfl, rfl, hj, hown, hW0⟩ := hrel
    have hcs := worAt_size Hp.out s hs j
    have hstep : worAt pick rs (j + 1) s = st16 rs (worAt pick rs j s) (pick (worAt pick rs j s)) := rfl
    have hto := worTo_succ pick rs s j
    have hvj := Hval.out j
    obtain ⟨cur, hcur⟩ : ∃ cur, cur = worAt pick rs j s := ⟨_, rfl⟩
    rw [← hcur] at hcs hstep hvj ⊢
    by_cases hlt : j < t
    · obtain ⟨x, hx1, hx2⟩ := hvj hlt
      obtain ⟨nx, hnx⟩ : ∃ nx, nx = nwS rs cur (pick cur) := ⟨_, rfl⟩
      obtain ⟨nc, hnc⟩ : ∃ nc, nc = nwC rs cur (pick cur) := ⟨_, rfl⟩
      have hnx2 : nx = worAt pick rs (j + 1) s := by rw [hnx, hstep, hx1, nw_st hx2]
      clear hvj hx1 hx2
      have Hcur := Lib.hid hcur
      clear hcur
      have Hto := Lib.hid hto
      clear hto
      have Hstep := Lib.hid hstep
      clear hstep
      have Hnx := Lib.hid hnx
      clear hnx
      have Hnc := Lib.hid hnc
      clear hnc
      have Hnx2 := Lib.hid hnx2
      clear hnx2
      go_wp2_with fail
      refine (Hg.out _ cur hcs hW0).mono ?_
      rintro e w2 ⟨rfl, b2⟩
      rw [← Hnx.out, ← Hnc.out]
      have hW2 := hW0.trans (b2.mono hW0.size)
      have ho2 := own_keep hown b2 (Nat.le_refl _)
      have hws := hW2.size
      clear b2 hW0 hown
      go_wp2_with (at_builtin; refine wpList_app1 _ w2 rfl _ _ 29 rfl w.heap.size 9 1 16 _ Try.underlying29 info_str rfl (by omega) _ _ _ _ rfl rfl rfl ho2 rfl (one_cell_str _) (by omega) (by unfold maxLen; omega) (by omega) ?_; intro A5 c5 w5 hO5 hW5)
      have hW6 := hW2.trans hW5
      have hO6 : w5.ownsRow w.heap.size 9 1 (.slice A5 (j + 1 + 1) c5) (j + 1 + 1) (strs (worTo pick rs s (j + 1))) := by rw [Hto.out, strs_snoc, ← Hnx2.out]; exact hO5
      clear hO5 ho2
      go_wp2_with fail
      go_roundw
      case rel => exact ⟨j + 1, A5, c5, by rw [Hnx2.out], rfl, by go_num, by omega, hO6, hW6⟩
      case measure => simp [intOf] <;> omega
    · have : j = t := by omega
      subst this
      have Hcur := Lib.hid hcur
      clear hcur
      have Hto := Lib.hid hto
      clear hto
      have Hstep := Lib.hid hstep
      clear hstep
      have Hvj := Lib.hid hvj
      clear hvj
      go_wp2_with fail
      go_ret
      exact ⟨_, _, rfl, hown, hW0⟩

set_option maxRecDepth 100000 in
set_option maxHeartbeats 2000000 in
theorem implWordsOnRun_any (l : Int) (A : Option Addr) (n c : Nat) (rs : List RuleT) (s : ByteArray) (m : Int) (w : World) (hr : Rd w A (cellsRule rs)) (hn : n = rs.length) (hb : n ≤ 1048576) (hz : ∀ x ∈ rs, x.1.size ≤ 1048576 ∧ x.2.size ≤ 1048576) (hs : s.size ≤ 1048576) :
    Calls Try.prog 40 #[.agg #[.int .i64 l, .slice A n c], .string s, .int .i64 m] w (MadeSl w 9 1 (worL l rs s m).length (strs (worL l rs s m))) := by
  have hmf : ∀ (fn : Fn) (first cap : Array Value) (w : World), (Instr.makeFunc fn first cap).run Try.prog w = .ok (.func fn first cap) w := fun _ _ _ _ => rfl
  have eg : ∀ args w, (callFunc 99 args).run Try.prog w = .ok (.enter 99 args) w := enters_of Try.func99 (by kernel_rfl) rfl
  have hW0 : Below w.heap.size w (w.alloc (.cells #[.int .i64 l, .slice A n c] 25)) := (Below.refl _ _).alloc (Nat.le_refl _) _
  have hS0 := Bk.new w 25 #[.int .i64 l, .slice A n c]
  have Hr := Lib.hid hr
  clear hr
  have Hn := Lib.hid hn
  clear hn
  have Hz := Lib.hid hz
  clear hz
  have Eg := Lib.hid eg
  clear eg
  go_enter Try.func40, Try.ntmps40
  go_wp2_with fail
  with_reducible refine (implIsRun_any l A n c rs s m _ (Hr.out.keep hW0) Hn.out hb Hz.out hs).mono ?_
  rintro e w1 ⟨rfl, b1⟩
  have hW1 := hW0.trans (b1.mono hW0.size)
  have hS1 := hS0.below b1 hS0.lt
  have s0_1 : w1.cell? ⟨w.heap.size, 0, none⟩ = some (.int .i64 l) := by rw [hS1.cell]; rfl
  have s1_1 : w1.cell? ⟨w.heap.size, 1, none⟩ = some (.slice A n c) := by rw [hS1.cell]; rfl
  have sl_1 := hS1.lt
  clear b1
  obtain ⟨o1, ho1⟩ : ∃ o1, o1 = (runOk l rs s && inB m 0 500) := ⟨_, rfl⟩
  rw [← ho1]
  cases o1
  · have e1 : worL l rs s m = [] := by rw [worL, ← ho1]; rfl
    have E1 := Lib.hid e1
    clear e1
    have Ho1 := Lib.hid ho1
    clear ho1
    go_wp2_with fail
    go_ret
    rw [E1.out]
    exact ⟨_, _, rfl, World.ownsRow_nil _ _ _ _, hW1⟩
  have h1 := ho1
  rw [eq_comm, Bool.and_eq_true] at h1
  obtain ⟨hm1, hm2⟩ := inB_out h1.2.symm
  obtain ⟨M, rfl⟩ := Int.eq_ofNat_of_zero_le hm1
  obtain ⟨t, ht, htk, hval⟩ := runR_steps (pick := firstS rs) (rs := rs) M 0 s
  rw [Nat.zero_add] at ht
  have e1 : worL l rs s (M : Int) = worTo (firstS rs) rs s t := by rw [worL, ← ho1, Int.toNat_natCast, ht]; rfl
  obtain ⟨⟨v0, v1, v2⟩, hv⟩ : ∃ v, v = runR (firstS rs) rs M 0 s := ⟨_, rfl⟩
  have hv1 : v1 = (t : Int) := by rw [← ht, ← hv]
  subst hv1
  have er : runV (runR (firstS rs) rs M 0 s) = .agg #[.string v0, .int .i64 (t : Int), .int .i64 v2] := by rw [← hv]; rfl
  have e3 : (worTo (firstS rs) rs s t).length = t + 1 := worTo_len _ _ _ _
  have hfd : ∀ W : World, (Instr.field 67 (.agg #[.string v0, .int .i64 (t : Int), .int .i64 v2]) 1).run Try.prog W = .ok (.int .i64 (t : Int)) W := fun W => by rfl
  have hM5 : M ≤ 500 := by omega
  have hfm : ∀ s x, firstS rs s = some x → x ∈ stepAcc rs s s.size := fun _ _ h => firstS_mem h
  have ht5 : t ≤ 500 := by omega
  have eS : ∀ W, Below w1.drew.heap.size w1.drew W → W.cell? ⟨w.heap.size, 0, none⟩ = some (.int .i64 l) ∧ W.cell? ⟨w.heap.size, 1, none⟩ = some (.slice A n c) ∧ w.heap.size < W.heap.size := fun W h => ⟨by rw [(hS1.drew.below h hS1.lt).cell]; rfl, by rw [(hS1.drew.below h hS1.lt).cell]; rfl, (hS1.drew.below h hS1.lt).lt⟩
  have hWf : ∀ (W0 : World), Below w1.drew.heap.size w1.drew W0 → ∀ (W : World) (s' : ByteArray), s'.size ≤ 1048576 → Below W0.heap.size W0 W → Calls Try.prog 99 #[.agg #[.int .i64 l, .slice A n c], .string s'] W (Kept W (.tuple #[.string (nwS rs s' (firstS rs s')), .int .i64 (nwC rs s' (firstS rs s'))])) := fun W0 h0 W s' hs' hB => implfirstWord_any l A n c rs s' W ((((Hr.out.keep hW1.drew).keep h0)).keep hB) Hn.out hb Hz.out hs'
  clear h1 hm2
  have Ho1 := Lib.hid ho1
  clear ho1
  have Ht := Lib.hid ht
  clear ht
  have Hval := Lib.hid hval
  clear hval
  have E1 := Lib.hid e1
  clear e1
  have Hv := Lib.hid hv
  clear hv
  have Er := Lib.hid er
  clear er
  have E3 := Lib.hid e3
  clear e3
  have ES := Lib.hid eS
  clear eS
  have HWf := Lib.hid hWf
  clear hWf
  go_wp2_with fail
  go_region_law (first | (go_simp; ((with_reducible refine (runSteps_any (firstS rs) rs s M 99 (.agg #[.int .i64 l, .slice A n c]) _ Eg.out hs hM5 hfm (HWf.out _ (Below.refl _ _))).mono ?_); rintro e y1 ⟨rfl, hU1⟩; rw [Er.out]; obtain ⟨p0, p1, pl⟩ := ES.out _ hU1)) | (go_simp; ((with_reducible refine (wordsOn_any (firstS rs) rs s t 99 (.agg #[.int .i64 l, .slice A n c]) _ Eg.out hs ht5 hfm Hval.out (HWf.out _ hU1)).mono ?_); rintro e y2 ⟨C, d, rfl, hO, hX2⟩; have hU2 := hU1.trans (hX2.mono hU1.size))))
  all_goals
    have hW3 := hW1.drew.trans (hU2.mono hW1.size)
    have hO3 := own_mono (b' := w.heap.size) hO (Nat.le_trans hW1.size (show w1.heap.size ≤ y1.heap.size from hU1.size))
    clear hU1 hU2 hX2 hO ES
    have HO3 := Lib.hid hO3
    clear hO3
    go_wp2_with fail
    go_ret
    rw [E1.out, E3.out]
    exact ⟨_, _, rfl, HO3.out, hW3⟩

end Go.Proofs.Ytidmbeeadbedaaa
