/- Walks over the weight of a word (l14Weight, weightOf) and both WeightOf, for all arguments. -/
import Derived.Test.YtidmbeeadbedaaaMg3
namespace Go.Proofs.Ytidmbeeadbedaaa
open Go.RowKit Go.Shelf

def wsum (xs : List Int) (l : List UInt8) : Int := (l.map (fun b => xs.getD (b.toNat - 97) 0)).sum
/-- The weight of a word. -/
def weightV (m : Int) (xs : List Int) (s : ByteArray) : Int := wsum xs s.data.toList % m

theorem wsum_step (xs : List Int) (s : ByteArray) (j : Nat) (h : j < s.size) : wsum xs (s.data.toList.take (j + 1)) = wsum xs (s.data.toList.take j) + xs.getD (s[j].toNat - 97) 0 := by
  have h' : j < s.data.toList.length := by rw [bytes_len]; exact h
  unfold wsum
  rw [List.take_succ_eq_append_getElem h', List.map_append, List.sum_append]
  simp
  rfl
theorem wsum_bound {xs : List Int} {K : Int} (hK : 0 ≤ K) (hx : ∀ k (hk : k < xs.length), 0 ≤ xs[k] ∧ xs[k] ≤ K) (l : List UInt8) : 0 ≤ wsum xs l ∧ wsum xs l ≤ K * l.length := by
  induction l with
  | nil => simp [wsum]
  | cons b t ih =>
    have e : wsum xs (b :: t) = xs.getD (b.toNat - 97) 0 + wsum xs t := by simp [wsum]
    have hb : 0 ≤ xs.getD (b.toNat - 97) 0 ∧ xs.getD (b.toNat - 97) 0 ≤ K := by
      by_cases hk : b.toNat - 97 < xs.length
      · have := hx _ hk
        simp [hk]
        exact this
      · simp [List.getElem?_eq_none (Nat.le_of_not_lt hk)]
        exact hK
    rw [e]
    refine ⟨by omega, ?_⟩
    rw [List.length_cons, Int.natCast_add, Int.mul_add]
    simp only [Int.cast_ofNat_Int, Int.mul_one]
    omega
theorem letter_at {k : Int} {s : ByteArray} (h : lettersOk k s = true) {j : Nat} (hj : j < s.size) : 97 ≤ (s[j].toNat : Int) ∧ (s[j].toNat : Int) ≤ 96 + k := by
  have h' : j < s.data.toList.length := by rw [bytes_len]; exact hj
  have := List.all_eq_true.1 h (s.data.toList[j]) (List.getElem_mem h')
  exact inB_out this.symm


set_option maxRecDepth 100000 in
set_option maxHeartbeats 1000000 in
theorem implWeight_any (m : Int) (A : Option Addr) (n c : Nat) (xs : List Int) (s : ByteArray) (w : World) (hx : Rd w A (ints xs)) (hn : n = xs.length) (_ : n ≤ 1048576) (hm1 : 1 ≤ m) (hm2 : m ≤ 12)
    (hbd : ∀ k (hk : k < xs.length), 0 ≤ xs[k] ∧ xs[k] ≤ 1000) (hl : lettersOk n s = true) (hs : s.size ≤ 16) :
    Calls Try.prog 109 #[.int .i64 m, .slice A n c, .string s] w fun e w' => e = .returned (.int .i64 (weightV m xs s)) ∧ w = w' := by
  have hbs := wsum_bound (K := 1000) (by omega) hbd
  have Hbs := Lib.hid hbs
  clear hbs
  have Hl := Lib.hid hl
  clear hl
  have Hbd := Lib.hid hbd
  clear hbd
  have Hn := Lib.hid hn
  clear hn
  go_enter Try.func109, Try.ntmps109
  go_wp2_with fail
  go_loop [7, 11] (fun v i => ∃ (j : Nat) (S : Int), j ≤ s.size ∧ i = .int .i64 j ∧ v = .int .i64 S ∧ 0 ≤ S ∧ S ≤ 1000 * j ∧ Hid (S = wsum xs (s.data.toList.take j))) (fun _ i => s.size - (intOf i).toNat)
  case atStart => exact ⟨0, 0, Nat.zero_le _, rfl, rfl, by omega, by omega, by simp [Hid, wsum]⟩
  case round =>
    obtain ⟨j, S, hj, rfl, rfl, hS0, hS1, HS⟩ := hrel
    by_cases hlt : j < s.size
    · obtain ⟨hl1, hl2⟩ := letter_at Hl.out hlt
      have h256 : s[j].toNat < 256 := s[j].toNat_lt
      have hlx : s[j].toNat - 97 < xs.length := by rw [← Hn.out]; omega
      have hz := ints_get xs _ hlx
      obtain ⟨b, o, rfl, hbl, hc⟩ := hx (by intro e; rw [e] at hz; cases hz)
      obtain ⟨hv1, hv2⟩ := Hbd.out _ hlx
      have hst := wsum_step xs s j hlt
      have hgd : xs.getD (s[j].toNat - 97) 0 = xs[s[j].toNat - 97] := by simp [hlx]
      rw [hgd] at hst
      obtain ⟨v, hv⟩ : ∃ v, v = xs[s[j].toNat - 97] := ⟨_, rfl⟩
      rw [← hv] at hz hv1 hv2 hst
      have c1 := hc _ _ hz
      have HT : Hid (S + v = wsum xs (s.data.toList.take (j + 1))) := by
        unfold Hid
        rw [hst, HS.out]
      clear hst hgd hv hz hc hx hlx
      go_wp2_with fail
      go_round
      case rel => exact ⟨j + 1, _, by omega, by go_num, rfl, by omega, by omega, HT⟩
      case measure => simp [intOf]; omega
    · have : j = s.size := by omega
      subst this
      go_wp2_with fail
      go_ret
      exact ⟨ret_int (by have := HS.out; rw [List.take_of_length_le (by rw [bytes_len]; omega)] at this; rw [this]; rfl), rfl⟩

def wOk (m : Int) (xs : List Int) (s : ByteArray) : Bool := wtsOk m xs && wordOk xs.length s
/-- WeightOf's first result. -/
def wRes (m : Int) (xs : List Int) (s : ByteArray) : Int := if wOk m xs s then weightV m xs s else 0

theorem wOk_parts {k : Int} {s : ByteArray} (h : true = wordOk k s) : 1 ≤ k ∧ k ≤ 4 ∧ s.size ≤ 16 ∧ lettersOk k s = true := by
  unfold wordOk at h
  have h := h.symm
  simp only [Bool.and_eq_true, decide_eq_true_eq] at h
  obtain ⟨⟨h1, h2⟩, h3⟩ := h
  have h1 := inB_out h1.symm
  exact ⟨h1.1, h1.2, h2, h3⟩


set_option maxRecDepth 100000 in
set_option maxHeartbeats 1000000 in
theorem implWeightOf_any (m : Int) (A : Option Addr) (n c : Nat) (xs : List Int) (s : ByteArray) (w : World) (hx : Rd w A (ints xs)) (hn : n = xs.length) (hb : n ≤ 1048576) (hs : s.size ≤ 1048576) :
    Calls Try.prog 49 #[.int .i64 m, .slice A n c, .string s] w (Kept w (.tuple #[.int .i64 (wRes m xs s), .bool (wOk m xs s)])) := by
  have Hn := Lib.hid hn
  clear hn
  go_enter Try.func49, Try.ntmps49
  go_wp2_with fail
  refine (implWts_any m A n c xs _ hx Hn.out hb).mono ?_
  rintro e w1 ⟨rfl, b1⟩
  have t1 := b1
  obtain ⟨r1, hrr⟩ : ∃ r', r' = (wtsOk m xs) := ⟨_, rfl⟩
  rw [← hrr]
  have H1 := Lib.hid hrr
  clear hrr
  cases r1
  · go_wp2_with fail
    go_ret2
    have e : wOk m xs s = false := by unfold wOk; rw [← H1.out]; rfl
    exact ⟨by rw [wRes, e]; rfl, t1⟩
  obtain ⟨hm1, hm2, hlo, hup, hbx⟩ := wts_bounds H1.out.symm
  have Hbx := Lib.hid hbx
  clear hbx
  go_wp2_with fail
  refine (implWord_any (n : Int) s _ (by omega)).mono ?_
  rintro e w' ⟨rfl, rfl⟩
  have hnl : ((n : Nat) : Int) = (xs.length : Int) := by rw [Hn.out]
  obtain ⟨r2, hrr⟩ : ∃ r', r' = (wordOk (n : Int) s) := ⟨_, rfl⟩
  rw [← hrr]
  have H2 := Lib.hid hrr
  clear hrr
  have Hnl := Lib.hid hnl
  clear hnl
  cases r2
  · go_wp2_with fail
    go_ret2
    have e : wOk m xs s = false := by unfold wOk; rw [← H1.out, ← Hnl.out, ← H2.out]; rfl
    exact ⟨by rw [wRes, e]; rfl, t1⟩
  obtain ⟨_, _, hs16, hlet⟩ := wOk_parts H2.out
  have Hlet := Lib.hid hlet
  clear hlet
  go_wp2_with fail
  refine (implWeight_any m A n c xs s _ (hx.keep t1) Hn.out hb hm1 hm2 (fun k hk => by have := Hbx.out k hk; omega) Hlet.out hs16).mono ?_
  rintro e w' ⟨rfl, rfl⟩
  have e : wOk m xs s = true := by unfold wOk; rw [← H1.out, ← Hnl.out, ← H2.out]; rfl
  have e2 : wRes m xs s = weightV m xs s := by rw [wRes, e]; rfl
  have E := Lib.hid e
  clear e
  have E2 := Lib.hid e2
  clear e2
  go_wp2_with fail
  go_ret2
  exact ⟨by rw [E2.out, E.out]; rfl, t1⟩

end Go.Proofs.Ytidmbeeadbedaaa
