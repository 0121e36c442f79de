/- Walk over WeightApart of the reference; slices.Clone at int. -/
import Derived.Test.YtnlagiopmkjmlaaAll
import Derived.Test.YtnlagiopmkjmlaaBxI
import Derived.Test.YtnlagiopmkjmlaaRfr
namespace Go.Proofs.Ytnlagiopmkjmlaa
open Go.RowKit Go.Shelf

def waCond (l : Int) (rs : List RuleT) (m : Int) (u v : ByteArray) : Bool := rulesOk l rs && (decide (1 ≤ m) && decide (m ≤ 6)) && wordOk l u && wordOk l v
/-- The words have different weights. -/
def apartW (m : Int) (u v : ByteArray) (ws : List Int) : Bool := !decide (weightV m ws u = weightV m ws v)
def waF (l : Int) (rs : List RuleT) (m : Int) (u v : ByteArray) : Option (List Int) := if waCond l rs m u v = true then (keptL l rs m).find? (apartW m u v) else none
def waL (l : Int) (rs : List RuleT) (m : Int) (u v : ByteArray) : List Int := (waF l rs m u v).getD []
def waOk (l : Int) (rs : List RuleT) (m : Int) (u v : ByteArray) : Bool := (waF l rs m u v).isSome
theorem wa_none {l : Int} {rs : List RuleT} {m : Int} {u v : ByteArray} (h : waF l rs m u v = none) : waL l rs m u v = [] ∧ waOk l rs m u v = false := by
  rw [waL, waOk, h]
  exact ⟨rfl, rfl⟩
theorem wa_some {l : Int} {rs : List RuleT} {m : Int} {u v : ByteArray} {ws : List Int} (h : waF l rs m u v = some ws) : waL l rs m u v = ws ∧ waOk l rs m u v = true := by
  rw [waL, waOk, h]
  exact ⟨rfl, rfl⟩
theorem kept_mem {l : Int} {rs : List RuleT} {m : Int} {ws : List Int} (hm : 1 ≤ m) (h : ws ∈ keptL l rs m) : ws.length = l.toNat ∧ (∀ q (hq : q < ws.length), 0 ≤ ws[q] ∧ ws[q] < m) := by
  have h1 := (List.mem_filter.1 h).1
  obtain ⟨k, _, rfl⟩ := List.mem_map.1 h1
  refine ⟨boxAt_len _ _ _, fun q hq => ?_⟩
  have h9 := boxAt_mem (b := m.toNat) (by omega) l.toNat k _ (List.getElem_mem hq)
  omega
theorem waL_len {l : Int} {rs : List RuleT} {m : Int} {u v : ByteArray} : (waL l rs m u v).length ≤ 1048576 := by
  rw [waL]
  cases h : waF l rs m u v with
  | none => exact Nat.zero_le _
  | some ws =>
    rw [waF] at h
    split at h
    · rename_i hc
      have hm := List.mem_of_find?_eq_some h
      unfold waCond rulesOk inB at hc
      simp only [Bool.and_eq_true, decide_eq_true_eq] at hc
      have h1 := (kept_mem hc.1.1.2.1 hm).1
      have h2 := hc.1.1.1.1.1
      show ws.length ≤ 1048576
      omega
    · cases h
theorem find_skip {α : Type} {p : α → Bool} {xs : List α} {k : Nat} {x : α} (hk : xs[k]? = some x) (h : ∀ y ∈ xs.take k, p y = false) (hx : p x = true) : xs.find? p = some x := by
  induction k generalizing xs with
  | zero =>
    cases xs with
    | nil => cases hk
    | cons y ys =>
      injection hk with hk
      subst hk
      rw [List.find?_cons, hx]
  | succ k ih =>
    cases xs with
    | nil => cases hk
    | cons y ys =>
      rw [List.find?_cons, h y (by simp)]
      exact ih hk (fun z hz => h z (by simp [hz]))

theorem own_of_el {b0 : Nat} {w : World} {v : Value} {l : List Int} (h : El b0 w v l) : w.ownsRow b0 3 1 v l.length (ints l) := by
  obtain ⟨g, c, cur, e, hB, ht, h1, h2, h3, h4⟩ := h
  exact ⟨by rw [ints_len, Nat.mul_one], .inr ⟨g, c, cur, e, h1, hB, h2, h3, h4, by rw [Nat.mul_one]; exact ht⟩⟩

theorem kept_few {l : Int} {rs : List RuleT} {m : Int} (hl : l ≤ 4) (hm : m ≤ 6) : (keptL l rs m).length ≤ 1296 := by
  refine Nat.le_trans (List.length_filter_le _ _) ?_
  rw [boxes_len]
  exact box_few (by omega) (by omega)

set_option maxRecDepth 100000 in
set_option maxHeartbeats 2000000 in
theorem cloneInt_any (a : Addr) (n c : Nat) (ls : List Int) (w : World) (hr : Rd w (some a) (ints ls)) (hn : n = ls.length) (hb : n ≤ 1048576) :
    Calls Try.prog 108 #[.slice (some a) n c] w (MadeSl w 3 1 n (ints ls)) := by
  have hO0 := own_of_bk (base := w.heap.size) (m := 1) (n := 0) (Bk.new w 3 #[]) (Nat.le_refl _) rfl (by unfold maxLen; omega)
  have hW0 : Below w.heap.size w (w.alloc (.cells #[] 3)) := (Below.refl _ _).alloc (Nat.le_refl _) _
  have hlen : (ints ls).length = n * 1 := by rw [ints_len, hn, Nat.mul_one]
  have hcells : ∀ j u, (ints ls)[j]? = some u → (w.alloc (.cells #[] 3)).cell? (a.add j) = some u := by
    intro j u hu
    obtain ⟨b, o, e, hl, hc⟩ := hr (by intro e; rw [e] at hu; cases hu)
    injection e with e
    subst e
    have e' : (⟨b, o, none⟩ : Addr).add j = ⟨b, o + j, none⟩ := by unfold Addr.add; split <;> simp_all
    rw [e', ← hc j u hu]
    exact ((Below.refl w.heap.size w).alloc (Nat.le_refl _) (.cells #[] 3)).cell hl
  have h1c : ∀ u ∈ ints ls, u.oneCell' = true := by
    intro u hu
    obtain ⟨x, _, rfl⟩ := List.mem_map.1 hu
    rfl
  have q22 : ∀ (w : World) (a : Option Addr) (n c n' c' : Nat), (Go.binOp .eql 60 (.slice a n c) (.slice none n' c')).run Try.prog w = .ok (.bool a.isNone) w := fun w a n c n' c' => Lib.run_eql_slice_nil w _ _ a n c n' c' Try.underlying60
  obtain ⟨i0, hi, hz0, hz1, hz2⟩ := info_parts info_int
  obtain ⟨L, hL⟩ : ∃ L, L = ints ls := ⟨_, rfl⟩
  rw [← hL] at hlen hcells h1c ⊢
  have Hr := Lib.hid hr
  clear hr
  have Hn := Lib.hid hn
  clear hn
  have HO0 := Lib.hid hO0
  clear hO0
  have HW0 := Lib.hid hW0
  clear hW0
  have HL := Lib.hid hL
  clear hL
  have Hcells := Lib.hid hcells
  clear hcells
  have H1c := Lib.hid h1c
  clear h1c
  go_enter Try.func108, Try.ntmps108
  go_wp2_with (at_builtin; refine wpList_append_own _ rfl _ _ 60 rfl w.heap.size 3 i0 _ 1 8 Try.underlying60 hi hz0 hz1 hz2 rfl (by omega) (.slice (some ⟨w.heap.size, 0, none⟩) 0 0) 0 [] rfl HO0.out a n c L rfl hlen Hcells.out H1c.out (by unfold maxLen; omega) (by omega) (by simp) ?_; intro v' w' hO hG hX)
  obtain ⟨A5, c5, rfl⟩ := own_form hO
  have hW5 := HW0.out.grown hG (by simp) fun k hk => by
    have : w.heap.size = k := by simpa [Value.ownBlock] using hk
    omega
  have hO5 : w'.ownsRow w.heap.size 3 1 (.slice A5 n c5) n L := by simpa using hO
  clear hO hG
  have HO5 := Lib.hid hO5
  clear hO5
  have HW5 := Lib.hid hW5
  clear hW5
  go_wp2_with fail
  go_ret
  exact ⟨A5, c5, by simp, HO5.out, HW5.out⟩

set_option maxRecDepth 100000 in
set_option maxHeartbeats 4000000 in
theorem specWeightApart_any (l : Int) (A : Option Addr) (n c : Nat) (rs : List RuleT) (m : Int) (u v : ByteArray) (w : World) (hr : Rd w A (cellsRule rs)) (hn : n = rs.length) (hb : n ≤ 1048576) (hz : ∀ x ∈ rs, x.1.size ≤ 1048576 ∧ x.2.size ≤ 1048576) (hu : u.size ≤ 1048576) (hv : v.size ≤ 1048576) :
    Calls Try.prog 49 #[.agg #[.int .i64 l, .slice A n c], .int .i64 m, .string u, .string v] w (MadeSlB w 3 1 (waL l rs m u v).length (ints (waL l rs m u v)) (waOk l rs m u v)) := by
  have hW0 : Below w.heap.size w (w.alloc (.cells #[.int .i64 l, .slice A n c] 29)) := (Below.refl _ _).alloc (Nat.le_refl _) _
  have hS0 := Bk.new w 29 #[.int .i64 l, .slice A n c]
  have no : ∀ (W : World), Below w.heap.size w W → waF l rs m u v = none → MadeSlB w 3 1 (waL l rs m u v).length (ints (waL l rs m u v)) (waOk l rs m u v) (.returned (.tuple #[.slice none 0 0, .bool false])) W := fun W hW h => by
    rw [(wa_none h).1, (wa_none h).2]
    exact ⟨none, 0, rfl, World.ownsRow_nil _ _ _ _, hW⟩
  have Hr := Lib.hid hr
  clear hr
  have Hn := Lib.hid hn
  clear hn
  have Hz := Lib.hid hz
  clear hz
  have No := Lib.hid no
  clear no
  go_enter Try.func49, Try.ntmps49
  go_wp2_with fail
  with_reducible refine (specRulesOk_any l A n c rs _ (Hr.out.keep hW0) Hn.out hb Hz.out).mono ?_
  rintro e w1 ⟨rfl, b1⟩
  have hW1 := hW0.trans (b1.mono hW0.size)
  have hS1 := hS0.below b1 hS0.lt
  have s0_1 : w1.cell? ⟨w.heap.size, 0, none⟩ = some (.int .i64 l) := by rw [hS1.cell]; rfl
  have s1_1 : w1.cell? ⟨w.heap.size, 1, none⟩ = some (.slice A n c) := by rw [hS1.cell]; rfl
  have sl_1 := hS1.lt
  clear b1
  obtain ⟨r1, hrr⟩ : ∃ r', r' = (rulesOk l rs) := ⟨_, rfl⟩
  rw [← hrr]
  have H1 := Lib.hid hrr
  clear hrr
  cases r1
  · go_wp2_with fail
    go_ret2
    exact No.out _ hW1 (by rw [waF, waCond, ← H1.out]; rfl)
  go_wp2_with fail
  refine (l01In_any m 1 6 _).mono ?_
  rintro e w2 ⟨rfl, hw2⟩
  subst hw2
  by_cases hmm : 1 ≤ m ∧ m ≤ 6
  rotate_left
  · have hin : inB m 1 6 = false := by unfold inB; simp; omega
    rw [hin]
    go_wp2_with fail
    go_ret2
    exact No.out _ hW1 (by rw [waF, if_neg (by unfold waCond; simp; omega)])
  obtain ⟨hm1, hm2⟩ := hmm
  have hin : inB m 1 6 = true := by unfold inB; simp [hm1, hm2]
  rw [hin]
  obtain ⟨hl1, hl2⟩ := rules_letters H1.out.symm
  go_wp2_with fail
  refine (specWord_any l u _ (by omega)).mono ?_
  rintro e w2 ⟨rfl, hw2⟩
  subst hw2
  obtain ⟨r2, hrr⟩ : ∃ r', r' = (wordOk l u) := ⟨_, rfl⟩
  rw [← hrr]
  have H2 := Lib.hid hrr
  clear hrr
  cases r2
  · go_wp2_with fail
    go_ret2
    exact No.out _ hW1 (by rw [waF, waCond, ← H2.out]; simp)
  go_wp2_with fail
  refine (specWord_any l v _ (by omega)).mono ?_
  rintro e w2 ⟨rfl, hw2⟩
  subst hw2
  obtain ⟨r3, hrr⟩ : ∃ r', r' = (wordOk l v) := ⟨_, rfl⟩
  rw [← hrr]
  have H3 := Lib.hid hrr
  clear hrr
  cases r3
  · go_wp2_with fail
    go_ret2
    exact No.out _ hW1 (by rw [waF, waCond, ← H3.out]; simp)
  have hcond : waCond l rs m u v = true := by rw [waCond, ← H1.out, ← H2.out, ← H3.out]; simp [hm1, hm2]
  obtain ⟨_, _, hu2, hu3⟩ := wOk_parts H2.out
  obtain ⟨_, _, hv2, hv3⟩ := wOk_parts H3.out
  obtain ⟨T, hT⟩ : ∃ T, T = keptL l rs m := ⟨_, rfl⟩
  have hF : waF l rs m u v = T.find? (apartW m u v) := by rw [waF, if_pos hcond, hT]
  clear hcond
  have HF := Lib.hid hF
  clear hF
  have Hu3 := Lib.hid hu3
  clear hu3
  have Hv3 := Lib.hid hv3
  clear hv3
  go_wp2_with fail
  with_reducible refine (specAll_any l A n c rs m _ (Hr.out.keep hW1) Hn.out hb H1.out.symm hl1 hl2 hm1 hm2).mono ?_
  rintro e w3 ⟨B, d, z, vs, rfl, hz2, hO3, hE3, b3⟩
  have hW3 := hW1.trans (b3.mono hW1.size)
  rw [← hT] at hz2 hE3
  have hm12 : m ≤ 12 := by omega
  have hws := hW1.size
  have hz9 : z ≤ 1296 := by rw [hz2, hT]; exact kept_few hl2 hm2
  clear hS1 s0_1 s1_1 b3
  have HO3 := Lib.hid hO3
  clear hO3
  have HE3 := Lib.hid hE3
  clear hE3
  have HW3 := Lib.hid hW3
  clear hW3
  have Hz2 := Lib.hid hz2
  clear hz2
  have HT := Lib.hid hT
  clear hT
  go_wp2_with fail
  go_loop [38] (fun i => ∃ (k : Nat), i = .int .i64 (k : Int) ∧ k ≤ z ∧ Hid (∀ y ∈ T.take k, apartW m u v y = false)) (fun i => z - (intOf i).toNat)
  case atStart => exact ⟨0, rfl, Nat.zero_le _, Lib.hid (fun y hy => by simp at hy)⟩
  case round =>
    obtain ⟨k, rfl, hkz, HA⟩ := hrel
    by_cases hk : k < z
    · have hkT : k < T.length := by rw [← Hz2.out]; exact hk
      have hTk : T[k]? = some T[k] := List.getElem?_eq_getElem hkT
      obtain ⟨ws, hws2⟩ : ∃ ws, ws = T[k] := ⟨_, rfl⟩
      rw [← hws2] at hTk
      obtain ⟨g1, rfl, hg1, hg2⟩ := own_some HO3.out (by omega)
      obtain ⟨el, hel, hEl⟩ := HE3.out.2 k ws hTk
      obtain ⟨g, c2, cur, rfl, hrest⟩ := hEl
      have hEl : El w1.heap.size w3 (.slice (some ⟨g, 0, none⟩) ws.length c2) ws := ⟨g, c2, cur, rfl, hrest⟩
      have hcell := rd_at (Rd.of_own HO3.out) hel
      obtain ⟨hwl, hwb⟩ := kept_mem hm1 (by rw [← HT.out]; exact List.mem_of_getElem? hTk)
      have hwll : ((ws.length : Nat) : Int) = l := by rw [hwl]; omega
      have hkb : ∀ q (hq : q < ws.length), 0 ≤ ws[q] ∧ ws[q] ≤ 1000 := fun q hq => by have := hwb q hq; omega
      have hc1 := fun (s : ByteArray) (h3 : lettersOk l s = true) (h2 : s.size ≤ 16) => specWeight_any m (some ⟨g, 0, none⟩) ws.length c2 ws s w3 hEl.rd rfl (by omega) hm1 hm12 hkb (by rw [hwll]; exact h3) h2
      have hcu := hc1 u Hu3.out hu2
      have hcv := hc1 v Hv3.out hv2
      clear hc1 hwl hwb hrest hkb hwll hws2
      have HTk := Lib.hid hTk
      clear hTk
      have Hel := Lib.hid hel
      clear hel
      have HEl := Lib.hid hEl
      clear hEl
      have Hcu := Lib.hid hcu
      clear hcu
      have Hcv := Lib.hid hcv
      clear hcv
      go_wp2_with fail
      refine Hcu.out.mono ?_
      rintro e w4 ⟨rfl, hw4⟩
      subst hw4
      go_wp2_with fail
      refine Hcv.out.mono ?_
      rintro e w4 ⟨rfl, hw4⟩
      subst hw4
      clear Hcu Hcv
      by_cases hne : weightV m ws u = weightV m ws v
      · have hap : apartW m u v ws = false := by unfold apartW; simp [hne]
        have hA2 : ∀ y ∈ T.take (k + 1), apartW m u v y = false := fun y hy => by
          rw [take_next HTk.out, List.mem_append] at hy
          rcases hy with hy | hy
          · exact HA.out y hy
          · obtain rfl := List.mem_singleton.1 hy
            exact hap
        clear hap
        have HA2 := Lib.hid hA2
        clear hA2
        go_wp2_with fail
        exact ⟨⟨k + 1, by go_num, by omega, HA2⟩, by simp [intOf]; omega⟩
      · have hap : apartW m u v ws = true := by unfold apartW; simp [hne]
        have hfs : waF l rs m u v = some ws := by rw [HF.out]; exact find_skip HTk.out HA.out hap
        have hfin : MadeSlB w 3 1 (waL l rs m u v).length (ints (waL l rs m u v)) (waOk l rs m u v) (.returned (.tuple #[.slice (some ⟨g, 0, none⟩) ws.length c2, .bool true])) w3 := by
          rw [(wa_some hfs).1, (wa_some hfs).2]
          exact ⟨_, _, rfl, own_mono (own_of_el HEl.out) hws, HW3.out⟩
        clear hap hfs
        have Hfin := Lib.hid hfin
        clear hfin
        go_wp2_with fail
        go_ret2
        exact Hfin.out
    · have hke : k = z := by omega
      have hno : waF l rs m u v = none := by
        rw [HF.out]
        refine List.find?_eq_none.2 (fun y hy => ?_)
        rw [HA.out y (by rw [hke, Hz2.out, List.take_length]; exact hy)]
        simp
      have hfin := No.out _ HW3.out hno
      clear hno hke
      have Hfin := Lib.hid hfin
      clear hfin
      go_wp2_with fail
      go_ret2
      exact Hfin.out

end Go.Proofs.Ytnlagiopmkjmlaa
