/- Walks over TurnProof (the program's and the reference's): both hand back the links turned round. -/
import Derived.Test.YtidmbeeadbedaaaLink
import Derived.Test.YtidmbeeadbedaaaMg1
namespace Go.Proofs.Ytidmbeeadbedaaa
open Go.RowKit Go.Shelf

def flipL (x : LinkT) : LinkT := (x.1, x.2.1, !x.2.2)
/-- TurnProof, in plain words. -/
def turnL (ls : List LinkT) : List LinkT := ls.reverse.map flipL
theorem turnL_len (ls : List LinkT) : (turnL ls).length = ls.length := by simp [turnL]
theorem cellsLink_snoc1 (xs : List LinkT) (a b : Int) (c : Bool) : cellsLink (xs ++ [(a, b, c)]) = cellsLink xs ++ [.int .i64 a, .int .i64 b, .bool c] := by simp [cellsLink, encLink]
theorem one_cell_link1 (a b : Int) (c : Bool) : ∀ u ∈ (#[Value.int .i64 a, Value.int .i64 b, Value.bool c] : Array Value).toList, u.oneCell' = true := by
  intro u hu
  simp at hu
  rcases hu with rfl | rfl | rfl <;> rfl

/-- The cells zs are those of n links, the q-th of them F q. -/
def At (zs : List Value) (n : Nat) (F : Nat → LinkT) : Prop := zs.length = n * 3 ∧ ∀ q, q < n → zs[q * 3]? = some (.int .i64 (F q).1) ∧ zs[q * 3 + 1]? = some (.int .i64 (F q).2.1) ∧ zs[q * 3 + 2]? = some (.bool (F q).2.2)

theorem At.of_list {ls : List LinkT} (d : LinkT) : At (cellsLink ls) ls.length (fun q => ls.getD q d) := by
  refine ⟨cellsLink_len ls, fun q hq => ?_⟩
  have e : ls.getD q d = ls[q] := by simp [hq]
  simp only [e]
  exact ⟨flat_get (enc := encLink) (m := 3) (fun _ => rfl) ls q 0 hq (by omega), flat_get (enc := encLink) (m := 3) (fun _ => rfl) ls q 1 hq (by omega), flat_get (enc := encLink) (m := 3) (fun _ => rfl) ls q 2 hq (by omega)⟩
theorem At.all {zs : List Value} {n : Nat} {F : Nat → LinkT} (h : At zs n F) {ls : List LinkT} (hl : ls.length = n) (hF : ∀ q (hq : q < ls.length), F q = ls[q]) : zs = cellsLink ls := by
  apply List.ext_getElem?
  intro j
  rcases Nat.lt_or_ge j (n * 3) with hj | hj
  · have hq : j / 3 < n := by omega
    obtain ⟨h0, h1, h2⟩ := h.2 (j / 3) hq
    have hq2 : j / 3 < ls.length := by omega
    rw [hF _ hq2] at h0 h1 h2
    have hr : j % 3 = 0 ∨ j % 3 = 1 ∨ j % 3 = 2 := by omega
    rcases hr with hr | hr | hr
    · have e : j = j / 3 * 3 := by omega
      rw [e, h0]
      exact (flat_get (enc := encLink) (m := 3) (fun _ => rfl) ls (j / 3) 0 hq2 (by omega)).symm
    · have e : j = j / 3 * 3 + 1 := by omega
      rw [e, h1]
      exact (flat_get (enc := encLink) (m := 3) (fun _ => rfl) ls (j / 3) 1 hq2 (by omega)).symm
    · have e : j = j / 3 * 3 + 2 := by omega
      rw [e, h2]
      exact (flat_get (enc := encLink) (m := 3) (fun _ => rfl) ls (j / 3) 2 hq2 (by omega)).symm
  · rw [List.getElem?_eq_none (by rw [h.1]; exact hj), List.getElem?_eq_none (by rw [cellsLink_len, hl]; exact hj)]
/-- Element i is written over. -/
theorem At.set3 {zs : List Value} {n : Nat} {F : Nat → LinkT} (h : At zs n F) {i : Nat} (hi : i < n) (x : LinkT) : At (((zs.set (i * 3) (.int .i64 x.1)).set (i * 3 + 1) (.int .i64 x.2.1)).set (i * 3 + 2) (.bool x.2.2)) n (fun q => if q = i then x else F q) := by
  have hl := h.1
  refine ⟨by simpa using hl, fun q hq => ?_⟩
  obtain ⟨h0, h1, h2⟩ := h.2 q hq
  by_cases e : q = i
  · subst e
    simp only [if_pos, List.getElem?_set, List.length_set]
    refine ⟨?_, ?_, ?_⟩
    · rw [if_neg (by omega), if_neg (by omega)]; simp [hl, hi]
    · rw [if_neg (by omega)]; simp [hl]; omega
    · simp [hl]; omega
  · simp only [if_neg e, List.getElem?_set, List.length_set]
    rw [if_neg (by omega), if_neg (by omega), if_neg (by omega), if_neg (by omega), if_neg (by omega), if_neg (by omega), if_neg (by omega), if_neg (by omega), if_neg (by omega)]
    exact ⟨h0, h1, h2⟩
theorem At.congr {zs : List Value} {n : Nat} {F G : Nat → LinkT} (h : At zs n F) (e : ∀ q, q < n → F q = G q) : At zs n G := ⟨h.1, fun q hq => by rw [← e q hq]; exact h.2 q hq⟩

theorem own_drew1 {w : World} {base : Nat} {t : TypeId} {m n : Nat} {v : Value} {xs : List Value} (h : w.ownsRow base t m v n xs) : w.drew.ownsRow base t m v n xs := h
theorem grown_drew1 {w w' : World} {row : Option Nat} (h : w.grownBy w' row) : w.grownBy w'.drew row := ⟨h.os, h.tape, h.output, h.size, h.block⟩

/-- The first i and the last i have changed places, turned round. -/
def revTo (n : Nat) (F : Nat → LinkT) (i : Nat) (q : Nat) : LinkT := if q < i ∨ n - 1 - i < q then F (n - 1 - q) else F q

set_option maxRecDepth 100000 in
set_option maxHeartbeats 4000000 in
theorem reverseLink_any (A : Option Addr) (n c : Nat) (zs : List Value) (F : Nat → LinkT) (base : Nat) (w : World) (ho : w.ownsRow base 95 3 (.slice A n c) n zs) (hF : At zs n F) (hb : n ≤ 1048576) :
    Calls Try.prog 70 #[.slice A n c] w fun e w' => e = .returned (.tuple #[]) ∧ ∃ ys, w'.ownsRow base 95 3 (.slice A n c) n ys ∧ At ys n (fun q => F (n - 1 - q)) ∧ w.grownBy w' (Value.slice A n c).ownBlock := by
  have hi0 : IntKind.i64.wrap ((n : Int) - 1) = (n : Int) - 1 := IntWalk.i64_in _ ⟨by omega, by omega⟩
  go_enter Try.func70, Try.ntmps70
  go_wp2_with fail
  go_loopw [2, 3] (fun u v wr => ∃ (i : Nat) (ys : List Value), i + i ≤ n ∧ u = .int .i64 i ∧ v = .int .i64 ((n : Int) - 1 - (i : Int)) ∧ wr.ownsRow base 95 3 (.slice A n c) n ys ∧ At ys n (revTo n F i) ∧ w.grownBy wr (Value.slice A n c).ownBlock) (fun u _ _ => n - (intOf u).toNat)
  case atStart => exact ⟨0, zs, by omega, rfl, by simp, ho, hF.congr (fun q hq => by rw [revTo, if_neg (by omega)]), grown_refl _ _⟩
  case round =>
    clear hi0 ho hF
    obtain ⟨i, ys, hi, rfl, rfl, hO, hT, hG⟩ := hrel
    by_cases hlt : i + i + 1 < n
    · obtain ⟨g, rfl, hbg, hlt'⟩ := own_some hO (by omega)
      obtain ⟨j, hj⟩ : ∃ j, j = n - 1 - i := ⟨_, rfl⟩
      have hji : (n : Int) - 1 - (i : Int) = (j : Int) := by omega
      rw [hji]
      have hij : (i : Int) < (j : Int) := by omega
      have hw1 : IntKind.i64.wrap ((j : Int) - 1) = (j : Int) - 1 := IntWalk.i64_in _ ⟨by omega, by omega⟩
      have hin : (i : Int) < (n : Int) := by omega
      have hjn : (j : Int) < (n : Int) := by omega
      obtain ⟨a0, a1, a2⟩ := hT.2 i (by omega)
      obtain ⟨b0, b1, b2⟩ := hT.2 j (by omega)
      have cg := hO.cells (g := g) rfl
      have ea : ∀ k, (⟨g, 0, none⟩ : Addr).add k = ⟨g, k, none⟩ := fun k => by unfold Addr.add; split <;> simp_all
      have p0 := cg _ _ a0
      have p1 := cg _ _ a1
      have p2 := cg _ _ a2
      have q0 := cg _ _ b0
      have q1 := cg _ _ b1
      have q2 := cg _ _ b2
      rw [ea] at p0 p1 p2 q0 q1 q2
      have hys : ys.length = n * 3 := hO.1
      have f0 := (own_cell hO (j := i * 3) (by omega)).2
      have f1 := (own_cell hO (j := i * 3 + 1) (by omega)).2
      have f2 := (own_cell hO (j := i * 3 + 2) (by omega)).2
      have g0 := (own_cell hO (j := j * 3) (by omega)).2
      have g1 := (own_cell hO (j := j * 3 + 1) (by omega)).2
      have g2 := (own_cell hO (j := j * 3 + 2) (by omega)).2
      obtain ⟨⟨x0, x1, x2⟩, hx⟩ : ∃ x, x = revTo n F i i := ⟨_, rfl⟩
      obtain ⟨⟨y0, y1, y2⟩, hy⟩ : ∃ y, y = revTo n F i j := ⟨_, rfl⟩
      rw [← hx] at p0 p1 p2
      rw [← hy] at q0 q1 q2
      dsimp only at p0 p1 p2 q0 q1 q2
      have s1 := hO.stored (i * 3) (.int .i64 y0)
      have s2 := s1.1.stored (i * 3 + 1) (.int .i64 y1)
      have s3 := s2.1.stored (i * 3 + 2) (.bool y2)
      have s4 := s3.1.stored (j * 3) (.int .i64 x0)
      have s5 := s4.1.stored (j * 3 + 1) (.int .i64 x1)
      have s6 := s5.1.stored (j * 3 + 2) (.bool x2)
      have hG6 := grown_trans (grown_trans (grown_trans (grown_trans (grown_trans (grown_trans hG s1.2) s2.2) s3.2) s4.2) s5.2) s6.2
      have hO6 := s6.1
      have hT6 : At _ n (revTo n F (i + 1)) := ((hT.set3 (i := i) (by omega) (y0, y1, y2)).set3 (i := j) (by omega) (x0, x1, x2)).congr (fun q hq => by
        rw [hx, hy]
        unfold revTo
        rcases Nat.lt_trichotomy q i with h | h | h
        · rw [if_neg (by omega), if_neg (by omega), if_pos (by omega), if_pos (by omega)]
        · rw [if_neg (by omega), if_pos h, if_neg (by omega), if_pos (by omega), hj, h]
        · rcases Nat.lt_trichotomy q j with h' | h' | h'
          · rw [if_neg (by omega), if_neg (by omega), if_neg (by omega), if_neg (by omega)]
          · rw [if_pos h', if_neg (by omega), if_pos (by omega), h', hj, show n - 1 - (n - 1 - i) = i by omega]
          · rw [if_neg (by omega), if_neg (by omega), if_pos (by omega), if_pos (by omega)])
      clear a0 a1 a2 b0 b1 b2 cg ea hji s1 s2 s3 s4 s5 s6 hO hT hG hx hy
      have HO6 := Lib.hid hO6
      clear hO6
      have HT6 := Lib.hid hT6
      clear hT6
      have HG6 := Lib.hid hG6
      clear hG6
      have Hj := Lib.hid hj
      clear hj
      go_wp2_with fail
      go_region
      go_wp2_with fail
      go_roundw
      case rel => exact ⟨i + 1, _, by omega, by go_num, by have := Hj.out; congr 1; omega, own_drew1 HO6.out, HT6.out, grown_drew1 HG6.out⟩
      case measure => simp [intOf] <;> omega
    · have hi2 : ¬ ((i : Int) < (n : Int) - 1 - (i : Int)) := by omega
      have HO := Lib.hid hO
      clear hO
      have HT := Lib.hid hT
      clear hT
      have HG := Lib.hid hG
      clear hG
      go_wp2_with fail
      go_end0
      refine ⟨rfl, ys, HO.out, HT.out.congr (fun q hq => ?_), HG.out⟩
      unfold revTo
      by_cases h : q < i ∨ n - 1 - i < q
      · rw [if_pos h]
      · rw [if_neg h, show n - 1 - q = q by omega]

theorem own_form {w : World} {base : Nat} {t : TypeId} {m n : Nat} {v : Value} {xs : List Value} (h : w.ownsRow base t m v n xs) : ∃ A c, v = .slice A n c := by
  rcases h.2 with ⟨h1, h2⟩ | ⟨g, cap, cur, hv, _⟩
  · exact ⟨none, 0, by rw [h1, h2]⟩
  · exact ⟨_, _, hv⟩

set_option maxRecDepth 100000 in
set_option maxHeartbeats 2000000 in
theorem cloneLink_any (A : Option Addr) (n c : Nat) (ls : List LinkT) (w : World) (hr : Rd w A (cellsLink ls)) (hn : n = ls.length) (hb : n ≤ 1048576) :
    Calls Try.prog 67 #[.slice A n c] w (MadeSl w 95 3 n (cellsLink ls)) := by
  cases A with
  | none =>
    have hl : ls = [] := by
      cases ls with
      | nil => rfl
      | cons x xs =>
        obtain ⟨b, o, e, _⟩ := rd_Link hr (k := 0) (by simp)
        cases e
    subst hl
    have h0 : n = 0 := hn
    subst h0
    clear hr hn
    have q22 : ∀ (w : World) (a : Option Addr) (n c n' c' : Nat), (Go.binOp .eql 26 (.slice a n c) (.slice none n' c')).run Try.prog w = .ok (.bool a.isNone) w := fun w a n c n' c' => Lib.run_eql_slice_nil w _ _ a n c n' c' Try.underlying26
    go_enter Try.func67, Try.ntmps67
    go_wp2_with fail
    go_ret
    exact ⟨none, 0, rfl, World.ownsRow_nil _ _ _ _, Below.refl _ _⟩
  | some a =>
    have hO0 := own_of_bk (base := w.heap.size) (m := 3) (n := 0) (Bk.new w 95 #[]) (Nat.le_refl _) rfl (by unfold maxLen; omega)
    have hW0 : Below w.heap.size w (w.alloc (.cells #[] 95)) := (Below.refl _ _).alloc (Nat.le_refl _) _
    have hlen : (cellsLink ls).length = n * 3 := by rw [cellsLink_len, hn]
    have hcells : ∀ j u, (cellsLink ls)[j]? = some u → (w.alloc (.cells #[] 95)).cell? (a.add j) = some u := by
      intro j u hu
      obtain ⟨b, o, e, hl, hc⟩ := hr (by intro e; rw [e] at hu; cases hu)
      injection e with e
      subst e
      have e' : (⟨b, o, none⟩ : Addr).add j = ⟨b, o + j, none⟩ := by unfold Addr.add; split <;> simp_all
      rw [e', ← hc j u hu]
      exact ((Below.refl w.heap.size w).alloc (Nat.le_refl _) (.cells #[] 95)).cell hl
    have h1c : ∀ u ∈ cellsLink ls, u.oneCell' = true := by
      intro u hu
      obtain ⟨x, _, hx⟩ := List.mem_flatMap.1 hu
      simp [encLink] at hx
      rcases hx with rfl | rfl | rfl <;> rfl
    have q22 : ∀ (w : World) (a : Option Addr) (n c n' c' : Nat), (Go.binOp .eql 26 (.slice a n c) (.slice none n' c')).run Try.prog w = .ok (.bool a.isNone) w := fun w a n c n' c' => Lib.run_eql_slice_nil w _ _ a n c n' c' Try.underlying26
    obtain ⟨i0, hi, hz0, hz1, hz2⟩ := info_parts info_Link
    obtain ⟨L, hL⟩ : ∃ L, L = cellsLink ls := ⟨_, rfl⟩
    rw [← hL] at hlen hcells h1c ⊢
    have Hr := Lib.hid hr
    clear hr
    have Hn := Lib.hid hn
    clear hn
    have HO0 := Lib.hid hO0
    clear hO0
    have HW0 := Lib.hid hW0
    clear hW0
    have HL := Lib.hid hL
    clear hL
    have Hcells := Lib.hid hcells
    clear hcells
    have H1c := Lib.hid h1c
    clear h1c
    go_enter Try.func67, Try.ntmps67
    go_wp2_with (at_builtin; refine wpList_append_own _ rfl _ _ 26 rfl w.heap.size 95 i0 _ 3 24 Try.underlying26 hi hz0 hz1 hz2 rfl (by omega) (.slice (some ⟨w.heap.size, 0, none⟩) 0 0) 0 [] rfl HO0.out a n c L rfl hlen Hcells.out H1c.out (by unfold maxLen; omega) (by omega) (by simp) ?_; intro v' w' hO hG hX)
    obtain ⟨A5, c5, rfl⟩ := own_form hO
    have hW5 := HW0.out.grown hG (by simp) fun k hk => by
      have : w.heap.size = k := by simpa [Value.ownBlock] using hk
      omega
    have hO5 : w'.ownsRow w.heap.size 95 3 (.slice A5 n c5) n L := by simpa using hO
    clear hO hG
    have HO5 := Lib.hid hO5
    clear hO5
    have HW5 := Lib.hid hW5
    clear hW5
    go_wp2_with fail
    go_ret
    exact ⟨A5, c5, by simp, HO5.out, HW5.out⟩

theorem set_same_at {ys : List Value} {i : Nat} {v : Value} (h : ys[i]? = some v) : ys.set i v = ys := by
  apply List.ext_getElem?
  intro j
  rw [List.getElem?_set]
  by_cases e : i = j
  · subst e
    have hl : i < ys.length := (List.getElem?_eq_some_iff.1 h).1
    rw [if_pos rfl, if_pos hl, h]
  · rw [if_neg e]

/-- The first i of the links that F tells, turned round. -/
def flipTo (F : Nat → LinkT) (i q : Nat) : LinkT := if q < i then flipL (F q) else F q

set_option maxRecDepth 100000 in
set_option maxHeartbeats 2000000 in
theorem implTurnProof_any (A : Option Addr) (n c : Nat) (ls : List LinkT) (w : World) (hr : Rd w A (cellsLink ls)) (hn : n = ls.length) (hb : n ≤ 1048576) :
    Calls Try.prog 14 #[.slice A n c] w (MadeSl w 95 3 (turnL ls).length (cellsLink (turnL ls))) := by
  obtain ⟨F, hF⟩ : ∃ F : Nat → LinkT, F = fun q => ls.getD q (0, 0, false) := ⟨_, rfl⟩
  have Hr := Lib.hid hr
  clear hr
  have Hn := Lib.hid hn
  clear hn
  have HF := Lib.hid hF
  clear hF
  go_enter Try.func14, Try.ntmps14
  go_wp2_with fail
  refine (cloneLink_any A n c ls _ Hr.out Hn.out hb).mono ?_
  rintro e w1 ⟨B, d, rfl, hO1, hW1⟩
  have hA1 : At (cellsLink ls) n F := by rw [HF.out, Hn.out]; exact At.of_list _
  have HO1 := Lib.hid hO1
  clear hO1
  have HW1 := Lib.hid hW1
  clear hW1
  have HA1 := Lib.hid hA1
  clear hA1
  go_wp2_with fail
  refine (reverseLink_any B n d _ F w.heap.size _ HO1.out HA1.out hb).mono ?_
  rintro e w2 ⟨rfl, ys, hO2, hA2, hG2⟩
  have hW2 := HW1.out.grown hG2 (HW1.out.size) fun k hk => (HO1.out.lt k hk).1
  obtain ⟨G, hGG⟩ : ∃ G : Nat → LinkT, G = fun q => F (n - 1 - q) := ⟨_, rfl⟩
  rw [← hGG] at hA2
  clear hG2 HO1 HW1 HA1
  have HO2 := Lib.hid hO2
  clear hO2
  have HW2 := Lib.hid hW2
  clear hW2
  have HA2 := Lib.hid hA2
  clear hA2
  have HGG := Lib.hid hGG
  clear hGG
  go_wp2_with fail
  go_loopw [11] (fun u wr => ∃ (i : Nat) (ys : List Value), i ≤ n ∧ u = .int .i64 i ∧ wr.ownsRow w.heap.size 95 3 (.slice B n d) n ys ∧ At ys n (flipTo G i) ∧ Below w.heap.size w wr) (fun u _ => n - (intOf u).toNat)
  case atStart => exact ⟨0, ys, Nat.zero_le _, rfl, HO2.out, HA2.out.congr (fun q hq => by rw [flipTo, if_neg (by omega)]), HW2.out⟩
  case round =>
    clear HO2 HW2 HA2 ys
    obtain ⟨i, ys, hi, rfl, hO, hT, hW⟩ := hrel
    by_cases hlt : i < n
    · obtain ⟨g, rfl, hbg, hlt'⟩ := own_some hO (by omega)
      obtain ⟨a0, a1, a2⟩ := hT.2 i hlt
      have cg := hO.cells (g := g) rfl
      have ea : ∀ k, (⟨g, 0, none⟩ : Addr).add k = ⟨g, k, none⟩ := fun k => by unfold Addr.add; split <;> simp_all
      have p2 := cg _ _ a2
      rw [ea] at p2
      have hys : ys.length = n * 3 := hO.1
      have f2 := (own_cell hO (j := i * 3 + 2) (by omega)).2
      have eF : flipTo G i i = G i := by rw [flipTo, if_neg (by omega)]
      rw [eF] at a0 a1 a2 p2
      obtain ⟨⟨x0, x1, x2⟩, hx⟩ : ∃ x, x = G i := ⟨_, rfl⟩
      rw [← hx] at a0 a1 a2 p2
      dsimp only at a0 a1 a2 p2
      have s1 := hO.stored (i * 3 + 2) (.bool (!x2))
      have hW3 := hW.grown s1.2 hW.size fun k hk => (hO.lt k hk).1
      have hO3 := s1.1
      have e0 : ys.set (i * 3) (.int .i64 x0) = ys := set_same_at a0
      have e1 : ys.set (i * 3 + 1) (.int .i64 x1) = ys := set_same_at a1
      have hT3 := hT.set3 (i := i) hlt (x0, x1, !x2)
      dsimp only at hT3
      rw [e0, e1] at hT3
      have hT4 := hT3.congr (G := flipTo G (i + 1)) (fun q hq => by
        unfold flipTo
        rcases Nat.lt_trichotomy q i with h | h | h
        · rw [if_neg (by omega), if_pos h, if_pos (by omega)]
        · rw [if_pos h, if_pos (by omega), h, ← hx]; rfl
        · rw [if_neg (by omega), if_neg (by omega), if_neg (by omega)])
      clear a0 a1 a2 cg ea eF s1 e0 e1 hT3 hO hT hW hx
      have HW3 := Lib.hid hW3
      clear hW3
      have HO3 := Lib.hid hO3
      clear hO3
      have HT4 := Lib.hid hT4
      clear hT4
      go_wp2_with fail
      go_roundw
      case rel => exact ⟨i + 1, _, by omega, by go_num, HO3.out, HT4.out, HW3.out⟩
      case measure => simp [intOf] <;> omega
    · have : i = n := by omega
      subst this
      have hL : (turnL ls).length = i := by rw [turnL_len, Hn.out]
      have hE : ys = cellsLink (turnL ls) := hT.all hL (fun q hq => by
        have hq2 : q < ls.length := by rw [turnL_len] at hq; exact hq
        have hq3 : ls.length - 1 - q < ls.length := by omega
        rw [flipTo, if_pos (by rw [Hn.out]; exact hq2), HGG.out, HF.out, Hn.out]
        simp [turnL, hq3])
      have HL := Lib.hid hL
      clear hL
      have HE := Lib.hid hE
      clear hE
      have HO := Lib.hid hO
      clear hO
      have HT := Lib.hid hT
      clear hT
      have HW := Lib.hid hW
      clear hW
      go_wp2_with fail
      go_ret
      rw [HL.out, ← HE.out]
      exact ⟨B, d, rfl, HO.out, HW.out⟩

end Go.Proofs.Ytidmbeeadbedaaa
