/- Merged texts: a claim has a limit of files. -/
import Derived.Test.YtidmbeeadbedaaaMg3
import Derived.Test.YtidmbeeadbedaaaMg4
import Derived.Test.YtidmbeeadbedaaaMg2
import Derived.Test.YtidmbeeadbedaaaMg1
import Derived.Test.YtidmbeeadbedaaaApp5

/- Walks over FormatTag of the reference, and FormatInt at a digit. -/
namespace Go.Proofs.Ytidmbeeadbedaaa
open Go.RowKit Go.Shelf


def dig (n : Int) : ByteArray := ⟨#[UInt8.ofNat (48 + n).toNat]⟩
theorem dig_size (n : Int) : (dig n).size = 1 := rfl
set_option maxRecDepth 100000 in
set_option maxHeartbeats 1000000 in
theorem specDigit_any (x : Int) (w : World) (h0 : 0 ≤ x) (h9 : x ≤ 9) : Calls Try.prog 198 #[.int .i64 x] w (Kept w (.string (dig x))) := by
  have hcv := conv_byte w (48 + x)
  rw [show (⟨#[UInt8.ofNat (48 + x).toNat]⟩ : ByteArray) = dig x from rfl] at hcv
  have hn0 : ¬ x < 0 := by omega
  have hn9 : ¬ 9 < x := by omega
  have hsz := dig_size x
  go_enter Try.func198, Try.ntmps198
  go_wp2_with fail
  refine wp_loop_rounds 1 ?_
  rw [rounds_succ]
  go_wp2_with fail
  go_ret
  exact ⟨by first | rfl | (rw [show dig x ++ (⟨#[]⟩ : ByteArray) = dig x from by apply ba_eq; simp]), (Below.refl _ _).alloc (Nat.le_refl _) _⟩


end Go.Proofs.Ytidmbeeadbedaaa

/- Walks over the laws' helpers for impl.Rule: eqRule, eqRuleS, markRuleS, heldRuleS and the readings of slices of them. -/
namespace Go.Proofs.Ytidmbeeadbedaaa
open Go.RowKit Go.Shelf

abbrev RuleT : Type := ByteArray × ByteArray
def encRule (x : RuleT) : List Value := [.string x.1, .string x.2]
def cellsRule (xs : List RuleT) : List Value := xs.flatMap encRule
theorem info_Rule : (Try.prog.info? 156).map (fun i => (i.zero, i.size, i.bytes)) = some (some (.agg #[.string ⟨#[]⟩, .string ⟨#[]⟩]), 2, 32) := by kernel_rfl

/-- The cells of element k. -/
theorem rd_Rule {w : World} {A : Option Addr} {xs : List RuleT} (h : Rd w A (cellsRule xs)) {k : Nat} (hk : k < xs.length) : ∃ b off, A = some ⟨b, off, none⟩ ∧ b < w.heap.size ∧
    w.cell? ⟨b, off + k * 2, none⟩ = some (.string xs[k].1) ∧ w.cell? ⟨b, off + k * 2 + 1, none⟩ = some (.string xs[k].2) := by
  have f0 := flat_get (enc := encRule) (m := 2) (fun _ => rfl) xs k 0 hk (by omega)
  obtain ⟨b, off, e, hb, hc⟩ := h (by intro e; unfold cellsRule at e; rw [e] at f0; cases f0)
  refine ⟨b, off, e, hb, ?_, ?_⟩
  · exact hc (k * 2) _ f0
  · exact hc (k * 2 + 1) _ (flat_get (enc := encRule) (m := 2) (fun _ => rfl) xs k 1 hk (by omega))

end Go.Proofs.Ytidmbeeadbedaaa

/- Walks over slices.IndexFunc and slices.ContainsFunc at []impl.Rule,impl.Rule: over any function value that keeps what was there. -/
namespace Go.Proofs.Ytidmbeeadbedaaa
open Go.RowKit Go.Shelf

def evRule (x : RuleT) : Value := .agg #[.string x.1, .string x.2]
set_option maxRecDepth 100000 in
set_option maxHeartbeats 1000000 in
theorem indexFunc_Rule (A : Option Addr) (n c : Nat) (xs : List RuleT) (g : FuncId) (lb : Array Value) (p : RuleT → Bool) (w : World) (eg : ∀ args w, (callFunc g args).run Try.prog w = .ok (.enter g args) w) (hr : Rd w A (cellsRule xs)) (hn : n = xs.length) (hb : n ≤ 9223372036854775807)
    (hf : ∀ (W : World) (x : RuleT), x ∈ xs → Below w.heap.size w W → Calls Try.prog g (#[evRule x] ++ lb) W (Kept W (.bool (p x)))) :
    Calls Try.prog 172 #[.slice A n c, .func (.func g) #[] lb] w (Kept w (.int .i64 (idxI p xs))) := by
  subst hn
  go_enter Try.func172, Try.ntmps172
  have Hf := Lib.hid hf
  clear hf
  go_wp2_with fail
  go_loopw [8] (fun i wr => ∃ (j : Nat), j ≤ xs.length ∧ i = .int .i64 j ∧ Hid ((xs.take j).all (fun x => !p x) = true) ∧ Below w.heap.size w wr) (fun i _ => xs.length - (intOf i).toNat)
  case atStart => exact ⟨0, Nat.zero_le _, rfl, by simp [Hid], Below.refl _ _⟩
  case round =>
    obtain ⟨j, hj, rfl, HA, hW⟩ := hrel
    by_cases hlt : j < xs.length
    · skip
      obtain ⟨b, o, rfl, hbl, p0, p1⟩ := rd_Rule (hr.keep hW) hlt
      obtain ⟨⟨v0, v1⟩, hv⟩ : ∃ v, v = xs[j] := ⟨_, rfl⟩
      rw [← hv] at p0 p1
      have Hv := Lib.hid hv
      clear hv
      clear hr
      go_wp2_with fail
      refine (Hf.out _ (v0, v1) (by rw [Hv.out]; exact List.getElem_mem hlt) hW).mono ?_
      rintro e w' ⟨rfl, hW2⟩
      have hW3 := hW.trans (hW2.mono hW.size)
      obtain ⟨r, hrr⟩ : ∃ r', r' = (p (v0, v1)) := ⟨_, rfl⟩
      rw [← hrr]
      have HR := Lib.hid hrr
      clear hrr
      clear hW2
      cases r
      · go_wp2_with fail
        go_roundw
        case rel => exact ⟨j + 1, by omega, by go_num, by unfold Hid; rw [List.take_succ_eq_append_getElem hlt, List.all_append, HA.out]; simp [← Hv.out, ← HR.out], hW3⟩
        case measure => simp [intOf]; omega
      · go_wp2_with fail
        go_ret
        exact ⟨ret_int (by rw [idx_hit hlt HA.out (by rw [← Hv.out, ← HR.out])]), hW3⟩
    · have : j = xs.length := by omega
      subst this
      go_wp2_with fail
      go_ret
      exact ⟨ret_int (by rw [idx_miss (by simpa using HA.out)]), hW⟩

set_option maxRecDepth 100000 in
set_option maxHeartbeats 400000 in
theorem containsFunc_Rule (A : Option Addr) (n c : Nat) (xs : List RuleT) (g : FuncId) (lb : Array Value) (p : RuleT → Bool) (w : World) (eg : ∀ args w, (callFunc g args).run Try.prog w = .ok (.enter g args) w) (hr : Rd w A (cellsRule xs)) (hn : n = xs.length) (hb : n ≤ 9223372036854775807)
    (hf : ∀ (W : World) (x : RuleT), x ∈ xs → Below w.heap.size w W → Calls Try.prog g (#[evRule x] ++ lb) W (Kept W (.bool (p x)))) :
    Calls Try.prog 134 #[.slice A n c, .func (.func g) #[] lb] w (Kept w (.bool (xs.any p))) := by
  go_enter Try.func134, Try.ntmps134
  have Hf := Lib.hid hf
  clear hf
  have Hn := Lib.hid hn
  clear hn
  go_wp2_with fail
  refine (indexFunc_Rule A n c xs g lb p w eg hr Hn.out hb Hf.out).mono ?_
  rintro e w' ⟨rfl, hW⟩
  obtain ⟨r, hrr⟩ : ∃ r', r' = (idxI p xs) := ⟨_, rfl⟩
  rw [← hrr]
  have HR := Lib.hid hrr
  clear hrr
  go_wp2
  go_ret
  exact ⟨ret_bool (by rw [HR.out]; exact findIdx_bool p xs), hW⟩

end Go.Proofs.Ytidmbeeadbedaaa
