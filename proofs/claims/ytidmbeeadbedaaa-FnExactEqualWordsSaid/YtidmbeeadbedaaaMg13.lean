/- Merged texts: a claim has a limit of files. -/
import Derived.Test.YtidmbeeadbedaaaRule
import Derived.Test.YtidmbeeadbedaaaMg3
import Derived.Test.YtidmbeeadbedaaaMg1

/- Walks over the laws' helpers that copy arguments: toRule, toRuleS, szRule, szRuleS. -/
namespace Go.Proofs.Ytidmbeeadbedaaa
open Go.ChangeShapes Go.WideShapes Go.ChangeAt Go.RowKit Go.Shelf

set_option maxRecDepth 100000 in
set_option maxHeartbeats 400000 in
theorem toRule_any (x0 : ByteArray) (x1 : ByteArray) (w : World) : Calls Try.prog 163 #[.agg #[.string x0, .string x1]] w (Kept w (.agg #[.string x0, .string x1])) := by
  go_enter Try.func163, Try.ntmps163
  go_wp2
  refine bodyPost_ret (v := .agg #[.string x0, .string x1]) (by simp [results, Try.results163, go_sem]) rfl ⟨rfl, ?_⟩
  exact ((((Below.refl _ _).alloc (Nat.le_refl _) _).alloc (by simp) _).alloc (by simp <;> omega) _)

set_option maxRecDepth 100000 in
set_option maxHeartbeats 1000000 in
theorem toRuleS_any (A : Option Addr) (n c : Nat) (xs : List RuleT) (w : World) (hr : Rd w A (cellsRule xs)) (hn : n = xs.length) (hb : n ≤ 1048576) (_ : ∀ x ∈ xs, x.1.size ≤ 1048576 ∧ x.2.size ≤ 1048576) :
    Calls Try.prog 117 #[.slice A n c] w (MadeSl w 156 2 n (cellsRule xs)) := by
  subst hn
  obtain ⟨i0, hi, hz0, hz1, hz2⟩ := info_parts info_Rule
  have hmk := fun (W : World) => run_make (P := Try.prog) W 23 156 i0 _ Try.underlying23 hi hz0 .i64 .i64 xs.length xs.length (by omega) (by omega) (by rw [hz2]; omega) (by omega)
  have hmn : i0.size = 2 := hz1
  go_enter Try.func117, Try.ntmps117
  go_wp2_with fail
  generalize hM : madeCells #[.string ⟨#[]⟩, .string ⟨#[]⟩] (xs.length * 2) = M
  have hMs : M.size = (cellsRule xs).length := by rw [← hM, size_madeCells, cellsRule_len]
  go_loopw [4] (fun i wr => ∃ (k : Nat) (cur : Array Value), k ≤ xs.length ∧ i = .int .i64 k ∧ Bk wr w.heap.size 156 cur ∧ Pre cur (cellsRule xs) (k * 2) ∧ Below w.heap.size w wr) (fun i _ => xs.length - (intOf i).toNat)
  case atStart => exact ⟨0, M, Nat.zero_le _, rfl, Bk.new _ _ _, by rw [Nat.zero_mul]; exact Pre.zero hMs, (Below.refl _ _).alloc (Nat.le_refl _) _⟩
  case round =>
    obtain ⟨k, cur, hk, rfl, hB, hP, hW⟩ := hrel
    clear hM hmk hmn hz0 hz1 hz2 hi
    by_cases hlt : k < xs.length
    · obtain ⟨b, off, rfl, hbl, p0, p1⟩ := rd_Rule (hr.keep hW) hlt
      have g0 := flat_get (enc := encRule) (m := 2) (fun _ => rfl) xs k 0 hlt (by omega)
      have g1 := flat_get (enc := encRule) (m := 2) (fun _ => rfl) xs k 1 hlt (by omega)
      obtain ⟨⟨x0, x1⟩, hxv⟩ : ∃ x, x = xs[k] := ⟨_, rfl⟩
      rw [← hxv] at p0 p1 g0 g1
      have hcs := hP.1
      rw [cellsRule_len] at hcs
      have hcl : xs.length * 2 ≤ cur.size := by omega
      clear hcs hr hxv
      go_wp2_with fail
      refine (toRule_any x0 x1 _).mono ?_
      rintro e w1 ⟨rfl, hW1⟩
      have hB1 := hB.below hW1 hB.lt
      have hf0 := hB1.free (k * 2)
      have hc0 : w1.cell? ⟨w.heap.size, k * 2, none⟩ = some (cur[k * 2]'(by omega)) := by rw [hB1.cell]; simp
      have hf1 := hB1.free (k * 2 + 1)
      have hc1 : w1.cell? ⟨w.heap.size, k * 2 + 1, none⟩ = some (cur[k * 2 + 1]'(by omega)) := by rw [hB1.cell]; simp
      go_wp2_with fail
      go_roundw
      case rel => exact ⟨k + 1, _, by omega, by go_num, ((hB1.put (k * 2) _).put (k * 2 + 1) _), (by rw [Nat.add_mul]; exact ((hP.put g0).put g1)), (((hW.trans (hW1.mono hW.size)).setCell (Nat.le_refl _) _).setCell (Nat.le_refl _) _)⟩
      case measure => simp [intOf]; omega
    · have : k = xs.length := by omega
      subst this
      go_wp2
      go_ret
      exact ⟨_, _, rfl, own_of_pre hB hP (cellsRule_len xs).symm (Nat.le_refl _) (cellsRule_len xs) (by unfold maxLen; omega), hW⟩

set_option maxRecDepth 100000 in
set_option maxHeartbeats 400000 in
theorem szRule_any (x0 : ByteArray) (x1 : ByteArray) (left : Int) (w : World) (h0 : 0 ≤ left) (h1 : left ≤ 1048576) (s0 : x0.size ≤ maxLen) (s1 : x1.size ≤ maxLen) :
    Calls Try.prog 160 #[.agg #[.string x0, .string x1], .int .i64 left] w (Kept w (.int .i64 (szLeft left (x0.size + x1.size : Nat)))) := by
  go_enter Try.func160, Try.ntmps160
  unfold maxLen at s0
  unfold maxLen at s1
  by_cases n0 : (left - x0.size : Int) < 0
  · go_wp2
    go_ret
    exact ⟨ret_int (by rw [szLeft, if_pos (by omega)]), (Below.refl _ _).alloc (Nat.le_refl _) _⟩
  by_cases n1 : (left - x0.size - x1.size : Int) < 0
  · go_wp2
    go_ret
    exact ⟨ret_int (by rw [szLeft, if_pos (by omega)]), (Below.refl _ _).alloc (Nat.le_refl _) _⟩
  go_wp2
  go_ret
  exact ⟨ret_int (by rw [szLeft, if_neg (by omega)]; omega), (Below.refl _ _).alloc (Nat.le_refl _) _⟩

def totRule (xs : List RuleT) : Nat := xs.length + (xs.map (fun x : RuleT => x.1.size + x.2.size)).sum

theorem totRule_step (xs : List RuleT) (k : Nat) (h : k < xs.length) : ((xs.take (k + 1)).map (fun x : RuleT => x.1.size + x.2.size)).sum = ((xs.take k).map (fun x : RuleT => x.1.size + x.2.size)).sum + (fun x : RuleT => x.1.size + x.2.size) xs[k] := by
  rw [List.take_succ_eq_append_getElem h, List.map_append, List.sum_append]
  simp
theorem totRule_le (xs : List RuleT) (k : Nat) : ((xs.take k).map (fun x : RuleT => x.1.size + x.2.size)).sum ≤ (xs.map (fun x : RuleT => x.1.size + x.2.size)).sum := by
  conv => rhs; rw [← List.take_append_drop k xs, List.map_append, List.sum_append]
  omega

set_option maxRecDepth 100000 in
set_option maxHeartbeats 1000000 in
theorem szRuleS_any (A : Option Addr) (n c : Nat) (xs : List RuleT) (left : Int) (w : World) (hr : Rd w A (cellsRule xs)) (hn : n = xs.length) (hm : n ≤ maxLen) (h0 : 0 ≤ left) (h1 : left ≤ 1048576) (hs : ∀ x ∈ xs, x.1.size ≤ maxLen ∧ x.2.size ≤ maxLen) :
    Calls Try.prog 112 #[.slice A n c, .int .i64 left] w (Kept w (.int .i64 (szLeft left (totRule xs : Nat)))) := by
  unfold maxLen at hm
  subst hn
  go_enter Try.func112, Try.ntmps112
  by_cases n0 : (left - xs.length : Int) < 0
  · go_wp2
    go_ret
    exact ⟨ret_int (by rw [szLeft, totRule, if_pos (by omega)]), Below.refl _ _⟩
  · have n0' : (0 : Int) ≤ left - xs.length := by omega
    go_wp2_with fail
    go_loopw [1, 5] (fun l i wr => ∃ (k : Nat), k ≤ xs.length ∧ i = .int .i64 k ∧ l = .int .i64 (left - xs.length - (((xs.take k).map (fun x : RuleT => x.1.size + x.2.size)).sum : Nat)) ∧ 0 ≤ left - xs.length - (((xs.take k).map (fun x : RuleT => x.1.size + x.2.size)).sum : Nat) ∧ Below w.heap.size w wr) (fun _ i _ => xs.length - (intOf i).toNat)
    case atStart => exact ⟨0, Nat.zero_le _, rfl, by simp, by simp; omega, Below.refl _ _⟩
    case round =>
      obtain ⟨k, hk, rfl, rfl, hnn, hW⟩ := hrel
      by_cases hlt : k < xs.length
      · obtain ⟨b, off, rfl, hbl, p0, p1⟩ := rd_Rule (hr.keep hW) hlt
        have hsx := hs xs[k] (List.getElem_mem hlt)
        have hst := totRule_step xs k hlt
        have hle := totRule_le xs (k + 1)
        obtain ⟨⟨x0, x1⟩, hxv⟩ : ∃ x, x = xs[k] := ⟨_, rfl⟩
        rw [← hxv] at hsx hst p0 p1
        obtain ⟨S, hS⟩ : ∃ S, S = ((xs.take k).map (fun x : RuleT => x.1.size + x.2.size)).sum := ⟨_, rfl⟩
        rw [← hS] at hnn hst ⊢
        clear hxv hr hs hS
        obtain ⟨sz0, sz1⟩ := hsx
        have hst' : ((List.take (k + 1) xs).map (fun x : RuleT => x.1.size + x.2.size)).sum = S + (x0.size + x1.size) := hst
        clear hst
        have Hst' := Lib.hid hst'
        clear hst'
        have hleH := Lib.hid hle
        clear hle
        go_wp2_with fail
        refine (szRule_any x0 x1 _ _ (by omega) (by omega) sz0 sz1).mono ?_
        rintro e w1 ⟨rfl, hW1⟩
        have hW2 := hW.trans (hW1.mono hW.size)
        by_cases nk : (left - xs.length - S - (x0.size + x1.size : Nat) : Int) < 0
        · rw [szLeft, if_pos nk]
          go_wp2_with fail
          go_ret
          exact ⟨ret_int (by have := hleH.out; rw [Hst'.out] at this; rw [szLeft, totRule, if_pos (by omega)]), hW2⟩
        · rw [szLeft, if_neg nk]
          have nk' : (0 : Int) ≤ left - xs.length - S - (x0.size + x1.size : Nat) := by omega
          go_wp2_with fail
          go_roundw
          case rel => exact ⟨k + 1, by omega, by go_num, by rw [Hst'.out]; go_num, by rw [Hst'.out]; omega, hW2⟩
          case measure => simp [intOf]; omega
      · have : k = xs.length := by omega
        subst this
        have e : xs.take xs.length = xs := List.take_length
        rw [e] at hnn ⊢
        go_wp2_with fail
        go_ret
        exact ⟨ret_int (by rw [szLeft, totRule, if_neg (by omega)]; omega), hW⟩

theorem tot_len_rules (xs : List RuleT) : xs.length ≤ totRule xs := by unfold totRule; omega
theorem tot_all_rules (xs : List RuleT) (h : totRule xs ≤ 1048576) : ∀ x ∈ xs, x.1.size ≤ 1048576 ∧ x.2.size ≤ 1048576 := fun x hx => by
  have := mem_sum (fun x : RuleT => x.1.size + x.2.size) xs x hx
  unfold totRule at h
  omega
end Go.Proofs.Ytidmbeeadbedaaa

/- Walks over the laws' helpers for impl.System: toSystem, szSystem, eqSystem, markSystem, heldSystem. -/
namespace Go.Proofs.Ytidmbeeadbedaaa
open Go.RowKit Go.Shelf

/-- A struct of an int and a slice of the call's own. -/
def MadeSystem (w : World) (l : Int) (n : Nat) (xs : List Value) (e : Ending) (w' : World) : Prop :=
  ∃ A c, e = .returned (.agg #[.int .i64 l, .slice A n c]) ∧ w'.ownsRow w.heap.size 156 2 (.slice A n c) n xs ∧ Below w.heap.size w w'

set_option maxRecDepth 100000 in
set_option maxHeartbeats 1000000 in
theorem toSystem_any (l : Int) (A : Option Addr) (n c : Nat) (xs : List RuleT) (w : World) (hr : Rd w A (cellsRule xs)) (hn : n = xs.length) (hb : n ≤ 1048576) (hz : ∀ x ∈ xs, x.1.size ≤ 1048576 ∧ x.2.size ≤ 1048576) :
    Calls Try.prog 54 #[.agg #[.int .i64 l, .slice A n c]] w (MadeSystem w l n (cellsRule xs)) := by
  have Hn := Lib.hid hn
  clear hn
  go_enter Try.func54, Try.ntmps54
  go_wp2_with fail
  have hW0 : Below w.heap.size w (((w.alloc (.cells #[.int .i64 l, .slice A n c] 82)).alloc (.cells #[.int .i64 0, .slice none 0 0] 25)).alloc (.cells #[.int .i64 l, .slice none 0 0] 25)) :=
    (((Below.refl _ _).alloc (Nat.le_refl _) _).alloc (by simp) _).alloc (by simp; omega) _
  refine (toRuleS_any A n c xs _ (hr.keep hW0) Hn.out hb hz).mono ?_
  rintro e w1 ⟨B, d, rfl, o1, b1⟩
  have hR : Bk w1 (w.heap.size + 1) 25 #[.int .i64 0, .slice none 0 0] := (((Bk.new (w.alloc (.cells #[.int .i64 l, .slice A n c] 82)) _ _).alloc _).below b1 (by simp)).cast (by simp)
  have hO : Bk w1 (w.heap.size + 1 + 1) 25 #[.int .i64 l, .slice none 0 0] := ((Bk.new ((w.alloc (.cells #[.int .i64 l, .slice A n c] 82)).alloc (.cells #[.int .i64 0, .slice none 0 0] 25)) _ _).below b1 (by simp)).cast (by simp)
  have c0 := hR.cell 0
  have c1 := hR.cell 1
  have f0 := hR.free 0
  have f1 := hR.free 1
  have d0 := hO.cell 0
  have d1 := hO.cell 1
  have g1 := hO.free 1
  simp at c0 c1 d0 d1
  have t1 := hW0.trans (b1.mono hW0.size)
  have hz1 : w.heap.size + 3 ≤ w1.heap.size := by have := b1.size; simp at this; omega
  go_wp2_with fail
  have hRn := ((hR.far (p := ⟨w.heap.size + 1 + 1, 1, none⟩) (by simp) (.slice B n d)).put 0 (.int .i64 l)).put 1 (.slice B n d)
  have q0 := hRn.cell 0
  have q1 := hRn.cell 1
  refine bodyPost_ret (v := .agg #[.int .i64 l, .slice B n d]) (by simp [results, Try.results54, go_sem, q0, q1]) rfl ?_
  have o2 := o1
  refine ⟨B, d, rfl, own_mono (b := w.heap.size + 3) ?_ (by omega), ((t1.setCell (by simp; omega) _).setCell (by simp) _).setCell (by simp) _⟩
  have o3 : w1.ownsRow (w.heap.size + 3) 156 2 (.slice B n d) n (cellsRule xs) := by simpa using o1
  exact ownsRow_setCell_below (ownsRow_setCell_below (ownsRow_setCell_below o3 (a := ⟨w.heap.size + 1 + 1, 1, none⟩) (by simp) _) (a := ⟨w.heap.size + 1, 0, none⟩) (by simp) _) (a := ⟨w.heap.size + 1, 1, none⟩) (by simp) _

set_option maxRecDepth 100000 in
set_option maxHeartbeats 1000000 in
theorem szSystem_any (l : Int) (A : Option Addr) (n c : Nat) (xs : List RuleT) (left : Int) (w : World) (hr : Rd w A (cellsRule xs)) (hn : n = xs.length) (hm : n ≤ maxLen) (h0 : 0 ≤ left) (h1 : left ≤ 1048576) (hz : ∀ x ∈ xs, x.1.size ≤ maxLen ∧ x.2.size ≤ maxLen) :
    Calls Try.prog 52 #[.agg #[.int .i64 l, .slice A n c], .int .i64 left] w (Kept w (.int .i64 (szLeft left (totRule xs : Nat)))) := by
  have Hn := Lib.hid hn
  clear hn
  go_enter Try.func52, Try.ntmps52
  go_wp2_with fail
  have hW0 : Below w.heap.size w (w.alloc (.cells #[.int .i64 l, .slice A n c] 82)) := (Below.refl _ _).alloc (Nat.le_refl _) _
  refine (szRuleS_any A n c xs left _ (hr.keep hW0) Hn.out hm h0 h1 hz).mono ?_
  rintro e w1 ⟨rfl, b1⟩
  have t1 := hW0.trans (b1.mono hW0.size)
  by_cases ht : (left : Int) - (totRule xs : Nat) < 0
  · rw [szLeft, if_pos ht]
    go_wp2_with fail
    go_ret
    exact ⟨ret_int (by rw [szLeft, if_pos (by omega)]), t1⟩
  · rw [szLeft, if_neg ht]
    have ht' : (0 : Int) ≤ left - (totRule xs : Nat) := by omega
    go_wp2_with fail
    go_ret
    exact ⟨ret_int (by rw [szLeft, if_neg (by omega)]), t1⟩

set_option maxRecDepth 100000 in
set_option maxHeartbeats 1000000 in
theorem eqSystem_k (l : Int) (A : Option Addr) (n c : Nat) (xs : List RuleT) (k : Int) (B : Option Addr) (m d : Nat) (ys : List RuleT) (w : World) (hx : Rd w A (cellsRule xs)) (hn : n = xs.length) (hb : n ≤ 9223372036854775807) (hy : Rd w B (cellsRule ys)) (hm : m = ys.length) (hbm : m ≤ 9223372036854775807) :
    Calls Try.prog 56 #[.agg #[.int .i64 l, .slice A n c], .agg #[.int .i64 k, .slice B m d]] w (Kept w (.bool (decide (l = k) && decide (xs = ys)))) := by
  have e0 : (l == k) = decide (l = k) := rfl
  have i0 : (l != k) = !decide (l = k) := rfl
  generalize decide (l = k) = b0 at *
  have hW0 : Below w.heap.size w ((w.alloc (.cells #[.int .i64 l, .slice A n c] 25)).alloc (.cells #[.int .i64 k, .slice B m d] 25)) := ((Below.refl _ _).alloc (Nat.le_refl _) _).alloc (by simp) _
  have Hn := Lib.hid hn
  clear hn
  have Hm := Lib.hid hm
  clear hm
  go_enter Try.func56, Try.ntmps56
  cases b0
  · go_wp2
    go_ret
    exact ⟨rfl, hW0⟩
  · go_wp2_with fail
    refine (eqRuleS_k A n c xs B m d ys _ (hx.keep hW0) Hn.out hb (hy.keep hW0) Hm.out hbm).mono ?_
    rintro e w1 ⟨rfl, b1⟩
    have t1 := hW0.trans (b1.mono hW0.size)
    obtain ⟨r, hrr⟩ : ∃ r', r' = (decide (xs = ys)) := ⟨_, rfl⟩
    rw [← hrr]
    have HR := Lib.hid hrr
    clear hrr
    cases r
    · go_wp2_with fail
      go_ret
      exact ⟨ret_bool (by rw [← HR.out]; rfl), t1⟩
    · go_wp2_with fail
      go_ret
      exact ⟨ret_bool (by rw [← HR.out]; rfl), t1⟩

set_option maxRecDepth 100000 in
set_option maxHeartbeats 1000000 in
theorem markSystem_any (l : Int) (A : Option Addr) (n c : Nat) (zs : List Value) (k : Int) (base : Nat) (w : World) (ho : w.ownsRow base 156 2 (.slice A n c) n zs) (h0 : 0 ≤ k) (hk : k + n * 2 ≤ 4611686018427387904) :
    Calls Try.prog 57 #[.agg #[.int .i64 l, .slice A n c], .int .i64 k] w (Marks w base 156 2 A n c k (mkRule k)) := by
  go_enter Try.func57, Try.ntmps57
  go_wp2_with fail
  refine (markRuleS_any A n c zs k base _ (ho.alloc _) h0 hk).mono ?_
  rintro e w1 ⟨rfl, o1, g1⟩
  have hg := grown_trans (World.grownBy_alloc w (.cells #[.int .i64 l, .slice A n c] 25) (Value.slice A n c).ownBlock) g1
  go_wp2_with fail
  go_ret
  exact ⟨ret_int (by simp), o1, hg⟩


end Go.Proofs.Ytidmbeeadbedaaa

/- What the laws' walks need: sizes that are counted down. -/
namespace Go.Proofs.Ytidmbeeadbedaaa
open Go.RowKit Go.Shelf

theorem le_big {n : Nat} (h : n ≤ 1048576) : n ≤ 9223372036854775807 := by omega

theorem le_big2 {n : Nat} (h : n ≤ 8589934592) : n ≤ 9223372036854775807 := by omega
theorem own_drew {w : World} {b : Nat} {t : TypeId} {m n : Nat} {v : Value} {xs : List Value} (h : w.ownsRow b t m v n xs) : w.drew.ownsRow b t m v n xs := h

end Go.Proofs.Ytidmbeeadbedaaa
