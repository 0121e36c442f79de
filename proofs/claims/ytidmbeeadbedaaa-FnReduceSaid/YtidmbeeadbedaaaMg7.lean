/- Merged texts: a claim has a limit of files. -/
import Derived.Test.YtidmbeeadbedaaaMg4
import Derived.Test.YtidmbeeadbedaaaMg3
import Derived.Test.YtidmbeeadbedaaaMg1
import Derived.Test.YtidmbeeadbedaaaMg5
import Derived.Test.YtidmbeeadbedaaaMg6
import Derived.Test.YtidmbeeadbedaaaMg2

/- Walks over slices.IndexFunc and slices.ContainsFunc at []string,string: over any function value that keeps what was there. -/
namespace Go.Proofs.Ytidmbeeadbedaaa
open Go.RowKit Go.Shelf

def evString (x : ByteArray) : Value := .string x
set_option maxRecDepth 100000 in
set_option maxHeartbeats 1000000 in
theorem indexFunc_String (A : Option Addr) (n c : Nat) (xs : List ByteArray) (g : FuncId) (lb : Array Value) (p : ByteArray → Bool) (w : World) (eg : ∀ args w, (callFunc g args).run Try.prog w = .ok (.enter g args) w) (hr : Rd w A (strs xs)) (hn : n = xs.length) (hb : n ≤ 9223372036854775807)
    (hf : ∀ (W : World) (x : ByteArray), x ∈ xs → Below w.heap.size w W → Calls Try.prog g (#[evString x] ++ lb) W (Kept W (.bool (p x)))) :
    Calls Try.prog 155 #[.slice A n c, .func (.func g) #[] lb] w (Kept w (.int .i64 (idxI p xs))) := by
  subst hn
  go_enter Try.func155, Try.ntmps155
  have Hf := Lib.hid hf
  clear hf
  go_wp2_with fail
  go_loopw [8] (fun i wr => ∃ (j : Nat), j ≤ xs.length ∧ i = .int .i64 j ∧ Hid ((xs.take j).all (fun x => !p x) = true) ∧ Below w.heap.size w wr) (fun i _ => xs.length - (intOf i).toNat)
  case atStart => exact ⟨0, Nat.zero_le _, rfl, by simp [Hid], Below.refl _ _⟩
  case round =>
    obtain ⟨j, hj, rfl, HA, hW⟩ := hrel
    by_cases hlt : j < xs.length
    · skip
      have hz := strs_get xs j hlt
      obtain ⟨b, o, rfl, hbl, hc⟩ := (hr.keep hW) (by intro e; rw [e] at hz; cases hz)
      obtain ⟨v, hv⟩ : ∃ v, v = xs[j] := ⟨_, rfl⟩
      rw [← hv] at hz
      have c1 := hc j _ hz
      have Hv := Lib.hid hv
      clear hv
      clear hc hr hz
      go_wp2_with fail
      refine (Hf.out _ v (by rw [Hv.out]; exact List.getElem_mem hlt) hW).mono ?_
      rintro e w' ⟨rfl, hW2⟩
      have hW3 := hW.trans (hW2.mono hW.size)
      obtain ⟨r, hrr⟩ : ∃ r', r' = (p v) := ⟨_, rfl⟩
      rw [← hrr]
      have HR := Lib.hid hrr
      clear hrr
      clear hW2
      cases r
      · go_wp2_with fail
        go_roundw
        case rel => exact ⟨j + 1, by omega, by go_num, by unfold Hid; rw [List.take_succ_eq_append_getElem hlt, List.all_append, HA.out]; simp [← Hv.out, ← HR.out], hW3⟩
        case measure => simp [intOf]; omega
      · go_wp2_with fail
        go_ret
        exact ⟨ret_int (by rw [idx_hit hlt HA.out (by rw [← Hv.out, ← HR.out])]), hW3⟩
    · have : j = xs.length := by omega
      subst this
      go_wp2_with fail
      go_ret
      exact ⟨ret_int (by rw [idx_miss (by simpa using HA.out)]), hW⟩

set_option maxRecDepth 100000 in
set_option maxHeartbeats 400000 in
theorem containsFunc_String (A : Option Addr) (n c : Nat) (xs : List ByteArray) (g : FuncId) (lb : Array Value) (p : ByteArray → Bool) (w : World) (eg : ∀ args w, (callFunc g args).run Try.prog w = .ok (.enter g args) w) (hr : Rd w A (strs xs)) (hn : n = xs.length) (hb : n ≤ 9223372036854775807)
    (hf : ∀ (W : World) (x : ByteArray), x ∈ xs → Below w.heap.size w W → Calls Try.prog g (#[evString x] ++ lb) W (Kept W (.bool (p x)))) :
    Calls Try.prog 102 #[.slice A n c, .func (.func g) #[] lb] w (Kept w (.bool (xs.any p))) := by
  go_enter Try.func102, Try.ntmps102
  have Hf := Lib.hid hf
  clear hf
  have Hn := Lib.hid hn
  clear hn
  go_wp2_with fail
  refine (indexFunc_String A n c xs g lb p w eg hr Hn.out hb Hf.out).mono ?_
  rintro e w' ⟨rfl, hW⟩
  obtain ⟨r, hrr⟩ : ∃ r', r' = (idxI p xs) := ⟨_, rfl⟩
  rw [← hrr]
  have HR := Lib.hid hrr
  clear hrr
  go_wp2
  go_ret
  exact ⟨ret_bool (by rw [HR.out]; exact findIdx_bool p xs), hW⟩

end Go.Proofs.Ytidmbeeadbedaaa

/- Walks over TagOk (the program's and the reference's): each returns what tagOk says, for all arguments. -/
namespace Go.Proofs.Ytidmbeeadbedaaa
open Go.RowKit Go.Shelf

/-- TagOk, in plain words. -/
def tagOk (l : Int) (t : List ByteArray) : Bool := inB l 1 4 && inB t.length 1 4 && t.all (fun p => wordOk t.length p && decide (p.size ≤ 8))

theorem tag_any_not (xs : List ByteArray) (f : ByteArray → Bool) : (!xs.any (fun x => !f x)) = xs.all f := by
  induction xs with
  | nil => rfl
  | cons x xs ih => simp only [List.any_cons, List.all_cons, Bool.not_or, ih, Bool.not_not]



end Go.Proofs.Ytidmbeeadbedaaa

/- Walks over FormatTag of the reference, and FormatInt at a digit. -/
namespace Go.Proofs.Ytidmbeeadbedaaa
open Go.RowKit Go.Shelf


def dig (n : Int) : ByteArray := ⟨#[UInt8.ofNat (48 + n).toNat]⟩
theorem dig_size (n : Int) : (dig n).size = 1 := rfl
def tagW (l : Int) (xs : List ByteArray) : List ByteArray := dig l :: xs.map dot
/-- FormatTag, in plain words. -/
def fmtT (l : Int) (xs : List ByteArray) : ByteArray := if tagOk l xs then jn (tagW l xs) spc else ⟨#[]⟩
theorem tagOk_out {l : Int} {xs : List ByteArray} (h : tagOk l xs = true) : 1 ≤ l ∧ l ≤ 4 ∧ 1 ≤ xs.length ∧ xs.length ≤ 4 ∧ ∀ x ∈ xs, wordOk xs.length x = true ∧ x.size ≤ 8 := by
  unfold tagOk at h
  simp only [Bool.and_eq_true, List.all_eq_true, decide_eq_true_eq] at h
  obtain ⟨⟨h1, h2⟩, h3⟩ := h
  unfold inB at h1 h2
  simp only [Bool.and_eq_true, decide_eq_true_eq] at h1 h2
  exact ⟨h1.1, h1.2, by omega, by omega, fun x hx => ⟨(h3 x hx).1, (h3 x hx).2⟩⟩

set_option maxRecDepth 100000 in
set_option maxHeartbeats 1000000 in
theorem specDigit_any (x : Int) (w : World) (h0 : 0 ≤ x) (h9 : x ≤ 9) : Calls Try.prog 198 #[.int .i64 x] w (Kept w (.string (dig x))) := by
  have hcv := conv_byte w (48 + x)
  rw [show (⟨#[UInt8.ofNat (48 + x).toNat]⟩ : ByteArray) = dig x from rfl] at hcv
  have hn0 : ¬ x < 0 := by omega
  have hn9 : ¬ 9 < x := by omega
  have hsz := dig_size x
  go_enter Try.func198, Try.ntmps198
  go_wp2_with fail
  refine wp_loop_rounds 1 ?_
  rw [rounds_succ]
  go_wp2_with fail
  go_ret
  exact ⟨by first | rfl | (rw [show dig x ++ (⟨#[]⟩ : ByteArray) = dig x from by apply ba_eq; simp]), (Below.refl _ _).alloc (Nat.le_refl _) _⟩


end Go.Proofs.Ytidmbeeadbedaaa

/- Walks over the laws' helpers for impl.Rule: eqRule, eqRuleS, markRuleS, heldRuleS and the readings of slices of them. -/
namespace Go.Proofs.Ytidmbeeadbedaaa
open Go.RowKit Go.Shelf

abbrev RuleT : Type := ByteArray × ByteArray
def encRule (x : RuleT) : List Value := [.string x.1, .string x.2]
def cellsRule (xs : List RuleT) : List Value := xs.flatMap encRule
theorem encRule_len (x : RuleT) : (encRule x).length = 2 := rfl
theorem cellsRule_len (xs : List RuleT) : (cellsRule xs).length = xs.length * 2 := flat_len (enc := encRule) (m := 2) (fun _ => rfl) xs
theorem info_Rule : (Try.prog.info? 156).map (fun i => (i.zero, i.size, i.bytes)) = some (some (.agg #[.string ⟨#[]⟩, .string ⟨#[]⟩]), 2, 32) := by kernel_rfl

/-- The cells of element k. -/
theorem rd_Rule {w : World} {A : Option Addr} {xs : List RuleT} (h : Rd w A (cellsRule xs)) {k : Nat} (hk : k < xs.length) : ∃ b off, A = some ⟨b, off, none⟩ ∧ b < w.heap.size ∧
    w.cell? ⟨b, off + k * 2, none⟩ = some (.string xs[k].1) ∧ w.cell? ⟨b, off + k * 2 + 1, none⟩ = some (.string xs[k].2) := by
  have f0 := flat_get (enc := encRule) (m := 2) (fun _ => rfl) xs k 0 hk (by omega)
  obtain ⟨b, off, e, hb, hc⟩ := h (by intro e; unfold cellsRule at e; rw [e] at f0; cases f0)
  refine ⟨b, off, e, hb, ?_, ?_⟩
  · exact hc (k * 2) _ f0
  · exact hc (k * 2 + 1) _ (flat_get (enc := encRule) (m := 2) (fun _ => rfl) xs k 1 hk (by omega))

set_option maxRecDepth 100000 in
set_option maxHeartbeats 400000 in
theorem eqRule_any (x0 : ByteArray) (x1 : ByteArray) (y0 : ByteArray) (y1 : ByteArray) (w : World) :
    Calls Try.prog 164 #[.agg #[.string x0, .string x1], .agg #[.string y0, .string y1]] w (Kept w (.bool (decide (x0 = y0) && decide (x1 = y1)))) := by
  have e0 := str_eq x0 y0
  have e1 := str_eq x1 y1
  generalize decide (x0 = y0) = b0 at *
  generalize decide (x1 = y1) = b1 at *
  go_enter Try.func164, Try.ntmps164
  cases b0
  · go_wp2
    go_ret
    exact ⟨rfl, ((Below.refl _ _).alloc (Nat.le_refl _) _).alloc (by simp) _⟩
  cases b1
  · go_wp2
    go_ret
    exact ⟨rfl, ((Below.refl _ _).alloc (Nat.le_refl _) _).alloc (by simp) _⟩
  · go_wp2
    go_ret
    exact ⟨rfl, ((Below.refl _ _).alloc (Nat.le_refl _) _).alloc (by simp) _⟩

set_option maxRecDepth 100000 in
set_option maxHeartbeats 400000 in
theorem eqRuleS_any (A B : Option Addr) (n m c d : Nat) (xs ys : List RuleT) (w : World) (hx : Rd w A (cellsRule xs)) (hy : Rd w B (cellsRule ys)) (hn : n = xs.length) (hm : m = ys.length) (hb : n ≤ 9223372036854775807) (hbm : m ≤ 9223372036854775807) :
    Calls Try.prog 118 #[.slice A n c, .slice B m d] w (Kept w (.bool (decide (xs = ys)))) := by
  subst hn hm
  by_cases hl : xs.length = ys.length
  · have hd : ((xs.length : Int) != ys.length) = false := by simp [hl]
    have h1 : xs.length ≤ ys.length := by omega
    have h2 : ys.length ≤ xs.length := by omega
    have Hl := Lib.hid hl
    clear hl
    go_enter Try.func118, Try.ntmps118
    go_wp2_with fail
    go_loopw [5] (fun i wr => ∃ (k : Nat), k ≤ xs.length ∧ i = .int .i64 k ∧ Below w.heap.size w wr ∧ Same xs ys k) (fun i _ => xs.length - (intOf i).toNat)
    case atStart => exact ⟨0, Nat.zero_le _, rfl, Below.refl _ _, fun _ h => absurd h (Nat.not_lt_zero _)⟩
    case round =>
      obtain ⟨k, hk, rfl, hW, hS⟩ := hrel
      clear hd
      by_cases hlt : k < xs.length
      · have hlt2 : k < ys.length := by omega
        obtain ⟨b1, o1, rfl, hb1, p0, p1⟩ := rd_Rule (hx.keep hW) hlt
        obtain ⟨b2, o2, rfl, hb2, q0, q1⟩ := rd_Rule (hy.keep hW) hlt2
        obtain ⟨⟨x0, x1⟩, hxv⟩ : ∃ x, x = xs[k] := ⟨_, rfl⟩
        obtain ⟨⟨y0, y1⟩, hyv⟩ : ∃ y, y = ys[k] := ⟨_, rfl⟩
        rw [← hxv] at p0 p1
        rw [← hyv] at q0 q1
        clear hx hy
        have Hxv := Lib.hid hxv
        clear hxv
        have Hyv := Lib.hid hyv
        clear hyv
        go_wp2_with fail
        go_still_tail 8, (by kernel_rfl)
        change wpList _ _ _ _ _ wr.drew
        generalize hwd : wr.drew = w2
        have hW2 : Below w.heap.size w w2 := by rw [← hwd]; exact hW.drew
        clear hwd p0 p1 q0 q1
        go_wp2_with fail
        refine (eqRule_any x0 x1 y0 y1 _).mono ?_
        rintro e w3 ⟨rfl, hW3⟩
        have hW4 := hW2.trans (hW3.mono hW2.size)
        obtain ⟨r, hrr⟩ : ∃ r', r' = (decide (x0 = y0) && decide (x1 = y1)) := ⟨_, rfl⟩
        rw [← hrr]
        have HR := Lib.hid hrr
        clear hrr
        have HD : Hid (r = decide (xs[k] = ys[k])) := by
          rw [← Hxv.out, ← Hyv.out]
          unfold Hid
          rw [HR.out]
          simp
        cases r
        · go_wp2_with fail
          go_ret
          exact ⟨ret_bool (by symm; rw [decide_eq_false_iff_not]; exact ne_at (of_decide_eq_false HD.out.symm)), hW4⟩
        · go_wp2_with fail
          go_roundw
          case rel => exact ⟨k + 1, by omega, by go_num, hW4, hS.snoc hlt hlt2 (of_decide_eq_true HD.out.symm)⟩
          case measure => simp [intOf]; omega
      · have : k = xs.length := by omega
        subst this
        go_wp2_with fail
        go_ret
        exact ⟨ret_bool (by symm; rw [decide_eq_true_iff]; exact hS.all Hl.out), hW⟩
  · have hd : ((xs.length : Int) != ys.length) = true := by simp; omega
    go_enter Try.func118, Try.ntmps118
    go_wp2
    go_ret
    exact ⟨ret_bool (by simp; intro e; exact hl (by rw [e])), Below.refl _ _⟩
theorem eqRuleS_k (A : Option Addr) (n c : Nat) (xs : List RuleT) (B : Option Addr) (m d : Nat) (ys : List RuleT) (w : World) (hx : Rd w A (cellsRule xs)) (hn : n = xs.length) (hb : n ≤ 9223372036854775807) (hy : Rd w B (cellsRule ys)) (hm : m = ys.length) (hbm : m ≤ 9223372036854775807) :
    Calls Try.prog 118 #[.slice A n c, .slice B m d] w (Kept w (.bool (decide (xs = ys)))) := eqRuleS_any A B n m c d xs ys w hx hy hn hm hb hbm

/-- The value of the mark in cell i. -/
def mkRule (k : Int) (i : Nat) : Value := if i % 2 = 0 then .string (mt (k + i)) else .string (mt (k + i))
theorem mkRule_0 (k : Int) (j : Nat) : mkRule k (j * 2) = .string (mt (k + (j : Int) * 2)) := by
  have e : k + ((j * 2 : Nat) : Int) = k + (j : Int) * 2 := by omega
  unfold mkRule
  rw [if_pos (by omega)]
  rw [e]
theorem mkRule_1 (k : Int) (j : Nat) : mkRule k (j * 2 + 1) = .string (mt (k + (j : Int) * 2 + 1)) := by
  have e : k + ((j * 2 + 1 : Nat) : Int) = k + (j : Int) * 2 + 1 := by omega
  unfold mkRule
  rw [if_neg (by omega)]
  rw [e]

set_option maxRecDepth 100000 in
set_option maxHeartbeats 1000000 in
theorem markRuleS_any (A : Option Addr) (n c : Nat) (zs : List Value) (k : Int) (base : Nat) (w : World) (ho : w.ownsRow base 156 2 (.slice A n c) n zs) (h0 : 0 ≤ k) (hk : k + n * 2 ≤ 4611686018427387904) :
    Calls Try.prog 119 #[.slice A n c, .int .i64 k] w (Marks w base 156 2 A n c k (mkRule k)) := by
  go_enter Try.func119, Try.ntmps119
  go_wp2_with fail
  go_loopw [1, 5] (fun kk i wr => ∃ (j : Nat) (ys : List Value), j ≤ n ∧ i = .int .i64 j ∧ kk = .int .i64 (k + (j : Int) * 2) ∧ wr.ownsRow base 156 2 (.slice A n c) n ys ∧ Told ys (mkRule k) (j * 2) ∧ w.grownBy wr (Value.slice A n c).ownBlock) (fun _ i _ => n - (intOf i).toNat)
  case atStart => exact ⟨0, zs, Nat.zero_le _, rfl, by simp, ho, by rw [Nat.zero_mul]; exact Told.zero _ _, grown_refl _ _⟩
  case round =>
    obtain ⟨j, ys, hj, rfl, rfl, hO, hT, hG⟩ := hrel
    by_cases hlt : j < n
    · obtain ⟨g, rfl, hbg, hlt'⟩ := own_some hO (by omega)
      have hys : n * 2 ≤ ys.length := by rw [hO.1]; exact Nat.le_refl _
      clear ho
      go_wp2_with fail
      refine (markText_any (k + (j : Int) * 2) _ (by omega) (by omega)).mono ?_
      rintro e u0 ⟨rfl, hU0⟩
      have hA0 := own_keep hO hU0 (Nat.le_refl _)
      have hG0 := grown_trans hG (grown_of_below hU0 _)
      have cl0 := own_cell hA0 (j := j * 2) (by omega)
      obtain ⟨⟨v0, hv0⟩, hf0⟩ := cl0
      have hB0 := hA0.stored (j * 2) (mkRule k (j * 2))
      rw [mkRule_0] at hB0
      have hT0 := hT.put (by omega)
      rw [mkRule_0] at hT0
      have hK0 := grown_trans hG0 hB0.2
      have hO0 := hB0.1
      clear hB0
      go_wp2_with fail
      refine (markText_any (k + (j : Int) * 2 + 1) _ (by omega) (by omega)).mono ?_
      rintro e u1 ⟨rfl, hU1⟩
      have hA1 := own_keep hO0 hU1 (Nat.le_refl _)
      have hG1 := grown_trans hK0 (grown_of_below hU1 _)
      have cl1 := own_cell hA1 (j := j * 2 + 1) (by omega)
      obtain ⟨⟨v1, hv1⟩, hf1⟩ := cl1
      have hB1 := hA1.stored (j * 2 + 1) (mkRule k (j * 2 + 1))
      rw [mkRule_1] at hB1
      have hT1 := hT0.put (by simp only [List.length_set]; omega)
      rw [mkRule_1] at hT1
      have hK1 := grown_trans hG1 hB1.2
      have hO1 := hB1.1
      clear hB1
      go_wp2_with fail
      go_roundw
      case rel => exact ⟨j + 1, _, by omega, by go_num, by go_num, hO1, (by rw [Nat.add_mul]; exact hT1), hK1⟩
      case measure => simp [intOf]; omega
    · have : j = n := by omega
      subst this
      go_wp2
      go_ret
      have e := hT.all (j := j * 2) hO.1
      exact ⟨ret_int (by simp), by rw [← e]; exact hO, hG⟩


end Go.Proofs.Ytidmbeeadbedaaa
