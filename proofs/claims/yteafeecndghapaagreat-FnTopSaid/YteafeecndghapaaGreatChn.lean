/- Walk over l12Chain of the reference: some system, some word and some links, weakly. -/
import Derived.Test.YteafeecndghapaaGreatMg16
import Derived.Test.YteafeecndghapaaGreatApLink
import Derived.Test.YteafeecndghapaaGreatMg13
import Derived.Test.YteafeecndghapaaGreatMg12
namespace Go.Proofs.YteafeecndghapaaGreat
open Go.RowKit Go.Shelf

theorem own_low {w w' : World} {base b m n : Nat} {t : TypeId} {v : Value} {xs : List Value} (h : w.ownsRow base t m v n xs) (hb : Below b w w') (hq : ∀ q, v.ownBlock = some q → q < b) : w'.ownsRow base t m v n xs := by
  refine ⟨h.1, ?_⟩
  rcases h.2 with h2 | ⟨g, cap, cur, hv, hg, hh, r⟩
  · exact .inl h2
  · exact .inr ⟨g, cap, cur, hv, hg, (hb.block g (hq g (by rw [hv]; rfl))).trans hh, r⟩
theorem AnySt.low {w wr w' : World} {P : Nat} {A : Option Addr} {n c : Nat} {zs : List Int} {sb : Nat} {l : Int} {B : Option Addr} {k d : Nat} {rs : List RuleT} {b2 : Nat} (h : AnySt w wr P A n c zs sb l B k d rs) (hb : Below b2 wr w') (hs : sb < b2) (hq : ∀ q, (Value.slice B k d).ownBlock = some q → q < b2) : AnySt w w' P A n c zs sb l B k d rs := by
  have hlS := h.lS
  have hw := hb.mono (show w.heap.size ≤ b2 by omega)
  exact ⟨h.src0, cur_low h.cur hw h.lP, gb_up h.gb hw, h.bkR.below hb (by omega), h.bkS.below hb hs, h.lS, own_low h.own hb hq, h.len, h.lP⟩
/-- Where l12Chain stands: its system, and its links in a row that lies behind all of that. -/
structure ChSt (w wr : World) (P : Nat) (A : Option Addr) (n c : Nat) (zs : List Int) (sb : Nat) (l : Int) (B : Option Addr) (k d : Nat) (rs : List RuleT) (b2 : Nat) (C : Option Addr) (m e : Nat) (ls : List LinkT) : Prop where
  st : AnySt w wr P A n c zs sb l B k d rs
  own : wr.ownsRow b2 45 3 (.slice C m e) m (cellsLink ls)
  le : m = ls.length
  hs : sb < b2
  hq : ∀ q, (Value.slice B k d).ownBlock = some q → q < b2
  hb : b2 ≤ wr.heap.size
theorem ChSt.next {w wr : World} {P : Nat} {A : Option Addr} {n c : Nat} {zs : List Int} {sb : Nat} {l : Int} {B : Option Addr} {k d : Nat} {rs : List RuleT} {b2 : Nat} {C : Option Addr} {m e : Nat} {ls : List LinkT} {w' : World} (h : ChSt w wr P A n c zs sb l B k d rs b2 C m e ls) (hs : Src w' P A n c zs) (hg : wr.grownBy w' (some P)) : ChSt w w' P A n c zs sb l B k d rs b2 C m e ls :=
  ⟨h.st.next hs hg, own_gb h.own hg (by have := h.st.lP; have := h.st.lS; have := h.hs; omega), h.le, h.hs, h.hq, Nat.le_trans h.hb hg.size⟩
theorem ChSt.below {w wr : World} {P : Nat} {A : Option Addr} {n c : Nat} {zs : List Int} {sb : Nat} {l : Int} {B : Option Addr} {k d : Nat} {rs : List RuleT} {b2 : Nat} {C : Option Addr} {m e : Nat} {ls : List LinkT} {w' : World} (h : ChSt w wr P A n c zs sb l B k d rs b2 C m e ls) (hb : Below wr.heap.size wr w') : ChSt w w' P A n c zs sb l B k d rs b2 C m e ls := h.next (h.st.src.below hb) (gb_of_below hb _)
theorem ChSt.app {w wr : World} {P : Nat} {A : Option Addr} {n c : Nat} {zs : List Int} {sb : Nat} {l : Int} {B : Option Addr} {k d : Nat} {rs : List RuleT} {b2 : Nat} {C : Option Addr} {m e : Nat} {ls : List LinkT} {w' : World} {C' : Option Addr} {m' e' : Nat} {ls' : List LinkT} (h : ChSt w wr P A n c zs sb l B k d rs b2 C m e ls) (hb : Below b2 wr w') (ho : w'.ownsRow b2 45 3 (.slice C' m' e') m' (cellsLink ls')) (hl : m' = ls'.length) : ChSt w w' P A n c zs sb l B k d rs b2 C' m' e' ls' :=
  ⟨h.st.low hb h.hs h.hq, ho, hl, h.hs, h.hq, Nat.le_trans h.hb hb.size⟩
theorem cells_place (x0 x1 p : Int) (x2 : Bool) (ls : List LinkT) : (cellsLink ((x0, x1, x2) :: ls)).set 1 (.int .i64 p) = cellsLink ((x0, p, x2) :: ls) := rfl

def ChainS (P : Nat) (A : Option Addr) (n c : Nat) (zs : List Int) (w : World) (e : Ending) (w' : World) : Prop := ∃ (l : Int) (B : Option Addr) (k d : Nat) (rs : List RuleT) (u : ByteArray) (C : Option Addr) (m e' : Nat) (ls : List LinkT), (-9223372036854775808 ≤ l ∧ l ≤ 9223372036854775807) ∧ (k = rs.length ∧ Fair rs) ∧ u.size ≤ 24 ∧ (m = ls.length ∧ m ≤ 24) ∧ e = .returned (.tuple #[.agg #[.int .i64 l, .slice B k d], .string u, .slice C m e']) ∧ w'.ownsRow w.heap.size 68 2 (.slice B k d) k (cellsRule rs) ∧ w'.ownsRow w.heap.size 45 3 (.slice C m e') m (cellsLink ls) ∧ Src w' P A n c zs ∧ w.grownBy w' (some P)
set_option maxRecDepth 100000 in
set_option maxHeartbeats 8000000 in
theorem l12Chain_any {P : Nat} {A : Option Addr} {n c : Nat} {zs : List Int} (w : World) (h : Src w P A n c zs) : Calls Tryz.prog 12 #[.pointer (some ⟨P, 0, none⟩)] w (ChainS P A n c zs w) := by
  have lP := h.cur.lt
  have hw1 := (Below.refl w.heap.size w).alloc (Nat.le_refl _) (.cells #[.int .i64 0, .slice none 0 0] 25)
  have h1 := h.below hw1
  obtain ⟨W, hW⟩ : ∃ z, z = w.alloc (.cells #[.int .i64 0, .slice none 0 0] 25) := ⟨_, rfl⟩
  rw [← hW] at hw1 h1
  clear hw1
  have H := Lib.hid h
  clear h
  have H1 := Lib.hid h1
  clear h1
  have HW := Lib.hid hW
  clear hW
  go_enter Tryz.func12, Tryz.ntmps12
  go_wp2_with fail
  rw [← HW.out]
  with_reducible refine (l04Case_any _ H1.out).mono ?_
  rintro e w1 ⟨l, B, k, d, rs, u, hl, ⟨hk, hfr⟩, hu, rfl, hO, hs1, hg1⟩
  have hD := AnySt.make (l := l) H.out HW.out hO hk hs1 hg1
  have hq1 : ∀ q, (Value.slice B k d).ownBlock = some q → q < w1.heap.size := fun q e => (hO.lt _ e).2
  obtain ⟨sb, hsb⟩ : ∃ z, z = w1.heap.size := ⟨_, rfl⟩
  obtain ⟨w2, hw2⟩ : ∃ z, z = w1.alloc (.cells #[.int .i64 l, .slice B k d] 25) := ⟨_, rfl⟩
  rw [← hsb, ← hw2] at hD
  have hw2s : w2.heap.size = w1.heap.size + 1 := by rw [hw2]; simp
  have hCh : ChSt w (w2.alloc (.cells #[] 45)) P A n c zs sb l B k d rs w2.heap.size (some ⟨w2.heap.size, 0, none⟩) 0 0 [] :=
    ⟨hD.below ((Below.refl _ _).alloc (Nat.le_refl _) _), own_of_bk (Bk.new w2 45 #[]) (Nat.le_refl _) rfl (by unfold maxLen; omega), rfl, by omega, fun q e => by have := hq1 q e; omega, by simp⟩
  obtain ⟨b2, hb2⟩ : ∃ z, z = sb + 1 := ⟨_, rfl⟩
  rw [show w2.heap.size = b2 by rw [hb2, hsb]; exact hw2s] at hCh
  obtain ⟨w3, hw3⟩ : ∃ z, z = w2.alloc (.cells #[] 45) := ⟨_, rfl⟩
  rw [← hw3] at hCh
  have hkb : k ≤ 1048576 := by rw [hk]; have := hfr.1; omega
  have hzs : ∀ x ∈ rs, x.1.size ≤ 1048576 ∧ x.2.size ≤ 1048576 := fun x hx => by have := hfr.2 x hx; omega
  clear hO hs1 hg1 H1 HW hD hq1 hw2s
  have Hk := Lib.hid hk
  clear hk
  have Hfr := Lib.hid hfr
  clear hfr
  have Hsb := Lib.hid hsb
  clear hsb
  have Hw2 := Lib.hid hw2
  clear hw2
  have Hb2 := Lib.hid hb2
  clear hb2
  have Hw3 := Lib.hid hw3
  clear hw3
  have Hl := Lib.hid hl
  clear hl
  have Hzs := Lib.hid hzs
  clear hzs
  have HCh := Lib.hid hCh
  clear hCh
  go_wp2_with fail
  rw [← Hw2.out]
  try rw [← Hsb.out]
  try rw [← Hb2.out]
  try rw [← Hw3.out]
  go_loopw [7, 8, 9] (fun o v i wr => ∃ (j : Nat) (C : Option Addr) (m e : Nat) (ls : List LinkT) (cur : ByteArray), o = .slice C m e ∧ v = .string cur ∧ i = .int .i64 j ∧ j ≤ 24 ∧ m ≤ j ∧ cur.size ≤ 24 ∧ Hid (ChSt w wr P A n c zs sb l B k d rs b2 C m e ls)) (fun _ _ i _ => 24 - (intOf i).toNat)
  case atStart => exact ⟨0, _, 0, 0, [], u, rfl, rfl, rfl, by omega, by omega, hu, HCh⟩
  case round =>
    clear HCh
    obtain ⟨j, C, m, e, ls, cur, rfl, rfl, rfl, hj, hmj, hcs, HC0⟩ := hrel
    have c0 : wr.cell? ⟨w.heap.size, 0, none⟩ = some (.int .i64 0) := by rw [HC0.out.st.bkR.cell]; rfl
    have c1 : wr.cell? ⟨w.heap.size, 1, none⟩ = some (.slice none 0 0) := by rw [HC0.out.st.bkR.cell]; rfl
    have f0 := HC0.out.st.bkR.free 0
    have f1 := HC0.out.st.bkR.free 1
    have lb := HC0.out.st.bkR.lt
    have s0 : wr.cell? ⟨sb, 0, none⟩ = some (.int .i64 l) := by rw [HC0.out.st.bkS.cell]; rfl
    have s1 : wr.cell? ⟨sb, 1, none⟩ = some (.slice B k d) := by rw [HC0.out.st.bkS.cell]; rfl
    have sf0 := HC0.out.st.bkS.free 0
    have sf1 := HC0.out.st.bkS.free 1
    have sl := HC0.out.st.bkS.lt
    by_cases hlt : j < 24
    · go_wp2_with fail
      with_reducible refine (HC0.out.st.src.linkD).mono ?_
      rintro e9 w5 ⟨x, y, b, hx, hy, rfl, hs5, hg5⟩
      have hC5 := HC0.out.next hs5 hg5
      have hal := (Below.refl w5.heap.size w5).alloc (Nat.le_refl _) (.cells #[.int .i64 x, .int .i64 y, .bool b] 45)
      have hLb := Bk.new w5 45 #[.int .i64 x, .int .i64 y, .bool b]
      have hC6 := hC5.below hal
      have hrd6 := Rd.of_own hC6.st.own
      obtain ⟨ny, hny⟩ : ∃ z, z = alS l rs cur ((x : Int), (y : Int), b) := ⟨_, rfl⟩
      obtain ⟨ok, hok⟩ : ∃ z, z = alOk l rs cur ((x : Int), (y : Int), b) := ⟨_, rfl⟩
      have hnyb : ny.size ≤ 16 := by rw [hny]; exact alS_size _ _ _ _
      clear hs5 hg5 hal HC0 c0 c1 f0 f1 lb s0 s1 sf0 sf1 sl
      have HLb := Lib.hid hLb
      clear hLb
      have HC5 := Lib.hid hC5
      clear hC5
      have HC6 := Lib.hid hC6
      clear hC6
      have Hrd6 := Lib.hid hrd6
      clear hrd6
      have Hny := Lib.hid hny
      clear hny
      have Hok := Lib.hid hok
      clear hok
      have c0 : w5.cell? ⟨w.heap.size, 0, none⟩ = some (.int .i64 0) := by rw [HC5.out.st.bkR.cell]; rfl
      have c1 : w5.cell? ⟨w.heap.size, 1, none⟩ = some (.slice none 0 0) := by rw [HC5.out.st.bkR.cell]; rfl
      have f0 := HC5.out.st.bkR.free 0
      have f1 := HC5.out.st.bkR.free 1
      have lb := HC5.out.st.bkR.lt
      have s0 : w5.cell? ⟨sb, 0, none⟩ = some (.int .i64 l) := by rw [HC5.out.st.bkS.cell]; rfl
      have s1 : w5.cell? ⟨sb, 1, none⟩ = some (.slice B k d) := by rw [HC5.out.st.bkS.cell]; rfl
      have sf0 := HC5.out.st.bkS.free 0
      have sf1 := HC5.out.st.bkS.free 1
      have sl := HC5.out.st.bkS.lt
      go_wp2_with fail
      obtain ⟨lb9, hlb⟩ : ∃ z, z = w5.heap.size := ⟨_, rfl⟩
      obtain ⟨w6, hw6⟩ : ∃ z, z = w5.alloc (.cells #[.int .i64 x, .int .i64 y, .bool b] 45) := ⟨_, rfl⟩
      rw [← hlb, ← hw6] at HLb
      rw [← hw6] at HC6 Hrd6
      rw [← hw6]
      try rw [← hlb]
      have Hlb := Lib.hid hlb
      clear hlb
      have Hw6 := Lib.hid hw6
      clear hw6
      with_reducible refine (specApplyLink_any l B k d rs cur (x : Int) (y : Int) b _ Hrd6.out Hk.out hkb Hzs.out (by omega)).mono ?_
      rintro e9 w7 ⟨rfl, b7⟩
      rw [← Hny.out, ← Hok.out]
      have hC7 := HC6.out.below b7
      have hLb7 := HLb.out.below b7 HLb.out.lt
      clear b7 HC5 HC6 HLb Hrd6 c0 c1 f0 f1 lb s0 s1 sf0 sf1 sl
      have HC7 := Lib.hid hC7
      clear hC7
      have HLb7 := Lib.hid hLb7
      clear hLb7
      have c0 : w7.cell? ⟨w.heap.size, 0, none⟩ = some (.int .i64 0) := by rw [HC7.out.st.bkR.cell]; rfl
      have c1 : w7.cell? ⟨w.heap.size, 1, none⟩ = some (.slice none 0 0) := by rw [HC7.out.st.bkR.cell]; rfl
      have f0 := HC7.out.st.bkR.free 0
      have f1 := HC7.out.st.bkR.free 1
      have lb := HC7.out.st.bkR.lt
      have s0 : w7.cell? ⟨sb, 0, none⟩ = some (.int .i64 l) := by rw [HC7.out.st.bkS.cell]; rfl
      have s1 : w7.cell? ⟨sb, 1, none⟩ = some (.slice B k d) := by rw [HC7.out.st.bkS.cell]; rfl
      have sf0 := HC7.out.st.bkS.free 0
      have sf1 := HC7.out.st.bkS.free 1
      have sl := HC7.out.st.bkS.lt
      have d0 : w7.cell? ⟨lb9, 0, none⟩ = some (.int .i64 x) := by rw [HLb7.out.cell]; rfl
      have d1 : w7.cell? ⟨lb9, 1, none⟩ = some (.int .i64 y) := by rw [HLb7.out.cell]; rfl
      have d2 : w7.cell? ⟨lb9, 2, none⟩ = some (.bool b) := by rw [HLb7.out.cell]; rfl
      have dl := HLb7.out.lt
      cases ok
      · go_wp2_with fail
        go_roundw
        case rel => exact ⟨j + 1, C, m, e, ls, cur, rfl, rfl, by go_num, by omega, by omega, hcs, HC7⟩
        case measure => simp [intOf] <;> omega
      · by_cases h10 : ny.size ≤ 10
        · have h10i : (ny.size : Int) ≤ 10 := by omega
          have hO7 := HC7.out.own
          have hb7 := HC7.out.hb
          go_wp2_with (at_builtin; refine wpList_app1 _ w7 rfl _ _ 26 rfl b2 45 3 24 _ Tryz.underlying26 info_Link rfl (by omega) _ _ _ _ rfl rfl rfl hO7 rfl (one_cell_link _ _ _) (by omega) (by unfold maxLen; omega) (by omega) ?_; intro A8 c8 w8 hO8 hV8)
          have hO9 : w8.ownsRow b2 45 3 (.slice A8 (m + 1) c8) (m + 1) (cellsLink (ls ++ [((x : Int), (y : Int), b)])) := by rw [cellsLink_snoc]; exact hO8
          have hC8 := HC7.out.app hV8 hO9 (by rw [List.length_append, ← HC7.out.le]; rfl)
          clear hO8 hV8 hO9 hO7 d0 d1 d2 dl c0 c1 f0 f1 lb s0 s1 sf0 sf1 sl
          have HC8 := Lib.hid hC8
          clear hC8
          go_wp2_with fail
          go_roundw
          case rel => exact ⟨j + 1, A8, m + 1, c8, ls ++ [((x : Int), (y : Int), b)], ny, rfl, rfl, by go_num, by omega, by omega, by omega, HC8⟩
          case measure => simp [intOf] <;> omega
        · have h10i : ¬ (ny.size : Int) ≤ 10 := by omega
          go_wp2_with fail
          go_roundw
          case rel => exact ⟨j + 1, C, m, e, ls, cur, rfl, rfl, by go_num, by omega, by omega, hcs, HC7⟩
          case measure => simp [intOf] <;> omega
    · have hj24 : j = 24 := by omega
      subst hj24
      by_cases hm0 : 0 < m
      rotate_left
      · have hm1 : ¬ (0 : Int) < (m : Int) := by omega
        have hlS := HC0.out.st.lS
        have hs9 := HC0.out.hs
        go_wp2_with fail
        have hW9 : Below w.heap.size wr ((wr.setCell ⟨w.heap.size, 0, none⟩ (.int .i64 l)).setCell ⟨w.heap.size, 1, none⟩ (.slice B k d)) := ((Below.refl _ _).setCell (p := ⟨w.heap.size, 0, none⟩) (Nat.le_refl _) _).setCell (p := ⟨w.heap.size, 1, none⟩) (Nat.le_refl _) _
        have hne : (Value.slice B k d).ownBlock ≠ some w.heap.size := by
          intro e
          have := (HC0.out.st.own.lt _ e).1
          omega
        have hnl : (Value.slice C m e).ownBlock ≠ some w.heap.size := by
          intro e
          have := (HC0.out.own.lt _ e).1
          omega
        have hO9 := own_mono (own_far3 (own_far3 HC0.out.st.own (p := ⟨w.heap.size, 0, none⟩) hne (.int .i64 l)) (p := ⟨w.heap.size, 1, none⟩) hne (.slice B k d)) (b' := w.heap.size) (by omega)
        have hL9 := own_mono (own_far3 (own_far3 HC0.out.own (p := ⟨w.heap.size, 0, none⟩) hnl (.int .i64 l)) (p := ⟨w.heap.size, 1, none⟩) hnl (.slice B k d)) (b' := w.heap.size) (by omega)
        have hC9 := cur_low HC0.out.st.cur hW9 HC0.out.st.lP
        have hG9 := gb_up HC0.out.st.gb hW9
        have hBn := (HC0.out.st.bkR.put 0 (.int .i64 l)).put 1 (.slice B k d)
        have q0 := hBn.cell 0
        have q1 := hBn.cell 1
        refine bodyPost_ret (v := .tuple #[.agg #[.int .i64 l, .slice B k d], .string u, .slice C m e]) (by simp [results, Tryz.results12, go_sem, q0, q1]) rfl ?_
        exact ⟨l, B, k, d, rs, u, C, m, e, ls, Hl.out, ⟨Hk.out, Hfr.out⟩, hu, ⟨HC0.out.le, by omega⟩, rfl, hO9, hL9, HC0.out.st.src0.next hC9 hG9, hG9⟩
      have hm1 : (0 : Int) < (m : Int) := by omega
      go_wp2_with fail
      with_reducible refine (HC0.out.st.src.onceI 8 8 rfl (by omega) (by omega)).mono ?_
      rintro e9 w5 ⟨ob, rfl, hs5, hg5⟩
      have hC5 := HC0.out.next hs5 hg5
      clear hs5 hg5 HC0 c0 c1 f0 f1 lb s0 s1 sf0 sf1 sl
      have HC5 := Lib.hid hC5
      clear hC5
      have c0 : w5.cell? ⟨w.heap.size, 0, none⟩ = some (.int .i64 0) := by rw [HC5.out.st.bkR.cell]; rfl
      have c1 : w5.cell? ⟨w.heap.size, 1, none⟩ = some (.slice none 0 0) := by rw [HC5.out.st.bkR.cell]; rfl
      have f0 := HC5.out.st.bkR.free 0
      have f1 := HC5.out.st.bkR.free 1
      have lb := HC5.out.st.bkR.lt
      have s0 : w5.cell? ⟨sb, 0, none⟩ = some (.int .i64 l) := by rw [HC5.out.st.bkS.cell]; rfl
      have s1 : w5.cell? ⟨sb, 1, none⟩ = some (.slice B k d) := by rw [HC5.out.st.bkS.cell]; rfl
      have sf0 := HC5.out.st.bkS.free 0
      have sf1 := HC5.out.st.bkS.free 1
      have sl := HC5.out.st.bkS.lt
      cases ob
      · skip
        have hlS := HC5.out.st.lS
        have hs9 := HC5.out.hs
        go_wp2_with fail
        have hW9 : Below w.heap.size w5 ((w5.setCell ⟨w.heap.size, 0, none⟩ (.int .i64 l)).setCell ⟨w.heap.size, 1, none⟩ (.slice B k d)) := ((Below.refl _ _).setCell (p := ⟨w.heap.size, 0, none⟩) (Nat.le_refl _) _).setCell (p := ⟨w.heap.size, 1, none⟩) (Nat.le_refl _) _
        have hne : (Value.slice B k d).ownBlock ≠ some w.heap.size := by
          intro e
          have := (HC5.out.st.own.lt _ e).1
          omega
        have hnl : (Value.slice C m e).ownBlock ≠ some w.heap.size := by
          intro e
          have := (HC5.out.own.lt _ e).1
          omega
        have hO9 := own_mono (own_far3 (own_far3 HC5.out.st.own (p := ⟨w.heap.size, 0, none⟩) hne (.int .i64 l)) (p := ⟨w.heap.size, 1, none⟩) hne (.slice B k d)) (b' := w.heap.size) (by omega)
        have hL9 := own_mono (own_far3 (own_far3 HC5.out.own (p := ⟨w.heap.size, 0, none⟩) hnl (.int .i64 l)) (p := ⟨w.heap.size, 1, none⟩) hnl (.slice B k d)) (b' := w.heap.size) (by omega)
        have hC9 := cur_low HC5.out.st.cur hW9 HC5.out.st.lP
        have hG9 := gb_up HC5.out.st.gb hW9
        have hBn := (HC5.out.st.bkR.put 0 (.int .i64 l)).put 1 (.slice B k d)
        have q0 := hBn.cell 0
        have q1 := hBn.cell 1
        refine bodyPost_ret (v := .tuple #[.agg #[.int .i64 l, .slice B k d], .string u, .slice C m e]) (by simp [results, Tryz.results12, go_sem, q0, q1]) rfl ?_
        exact ⟨l, B, k, d, rs, u, C, m, e, ls, Hl.out, ⟨Hk.out, Hfr.out⟩, hu, ⟨HC5.out.le, by omega⟩, rfl, hO9, hL9, HC5.out.st.src0.next hC9 hG9, hG9⟩
      · obtain ⟨g, rfl, hgb, hgl⟩ := own_some HC5.out.own hm0
        go_wp2_with fail
        with_reducible refine (HC5.out.st.src.nearI 0 5 0 5 rfl rfl (by omega) (by omega)).mono ?_
        rintro e9 w6 ⟨p, hp, rfl, hs6, hg6⟩
        have hC6 := HC5.out.next hs6 hg6
        obtain ⟨⟨x0, x1, x2⟩, lt, rfl⟩ : ∃ a t, ls = a :: t := by
          cases ls with
          | nil => have := hC6.le; simp at this; omega
          | cons a t => exact ⟨a, t, rfl⟩
        have hst := (hC6.own.stored 1 (.int .i64 p)).1
        rw [cells_place] at hst
        have hbl : Below b2 w6 (w6.setCell ⟨g, 1, none⟩ (.int .i64 p)) := (Below.refl _ _).setCell (p := ⟨g, 1, none⟩) hgb _
        have hC7 := hC6.app hbl hst hC6.le
        have gc := hC6.own.cells (g := g) rfl 1 (.int .i64 x1) rfl
        have gf := hC6.own.frozenAt 1
        have gl : g < w6.heap.size := Nat.lt_of_lt_of_le hgl hg6.size
        clear hs6 hg6 HC5 c0 c1 f0 f1 lb s0 s1 sf0 sf1 sl
        have HC6 := Lib.hid hC6
        clear hC6
        have HC7 := Lib.hid hC7
        clear hC7
        have e1 : (⟨g, 0, none⟩ : Addr).add 1 = ⟨g, 1, none⟩ := rfl
        rw [e1] at gc
        have s0 : (w6.setCell ⟨g, 1, none⟩ (.int .i64 p)).cell? ⟨sb, 0, none⟩ = some (.int .i64 l) := by rw [HC7.out.st.bkS.cell]; rfl
        have s1 : (w6.setCell ⟨g, 1, none⟩ (.int .i64 p)).cell? ⟨sb, 1, none⟩ = some (.slice B k d) := by rw [HC7.out.st.bkS.cell]; rfl
        have c0 : (w6.setCell ⟨g, 1, none⟩ (.int .i64 p)).cell? ⟨w.heap.size, 0, none⟩ = some (.int .i64 0) := by rw [HC7.out.st.bkR.cell]; rfl
        have c1 : (w6.setCell ⟨g, 1, none⟩ (.int .i64 p)).cell? ⟨w.heap.size, 1, none⟩ = some (.slice none 0 0) := by rw [HC7.out.st.bkR.cell]; rfl
        have f0 := HC7.out.st.bkR.free 0
        have f1 := HC7.out.st.bkR.free 1
        have lb := HC7.out.st.bkR.lt
        have sl := HC7.out.st.bkS.lt
        have hlS := HC7.out.st.lS
        have hs9 := HC7.out.hs
        go_wp2_with fail
        have hW9 : Below w.heap.size (w6.setCell ⟨g, 1, none⟩ (.int .i64 p)) (((w6.setCell ⟨g, 1, none⟩ (.int .i64 p)).setCell ⟨w.heap.size, 0, none⟩ (.int .i64 l)).setCell ⟨w.heap.size, 1, none⟩ (.slice B k d)) := ((Below.refl _ _).setCell (p := ⟨w.heap.size, 0, none⟩) (Nat.le_refl _) _).setCell (p := ⟨w.heap.size, 1, none⟩) (Nat.le_refl _) _
        have hne : (Value.slice B k d).ownBlock ≠ some w.heap.size := by
          intro e
          have := (HC7.out.st.own.lt _ e).1
          omega
        have hnl : (Value.slice (some ⟨g, 0, none⟩) m e).ownBlock ≠ some w.heap.size := by
          intro e
          have := (HC7.out.own.lt _ e).1
          omega
        have hO9 := own_mono (own_far3 (own_far3 HC7.out.st.own (p := ⟨w.heap.size, 0, none⟩) hne (.int .i64 l)) (p := ⟨w.heap.size, 1, none⟩) hne (.slice B k d)) (b' := w.heap.size) (by omega)
        have hL9 := own_mono (own_far3 (own_far3 HC7.out.own (p := ⟨w.heap.size, 0, none⟩) hnl (.int .i64 l)) (p := ⟨w.heap.size, 1, none⟩) hnl (.slice B k d)) (b' := w.heap.size) (by omega)
        have hC9 := cur_low HC7.out.st.cur hW9 HC7.out.st.lP
        have hG9 := gb_up HC7.out.st.gb hW9
        have hBn := (HC7.out.st.bkR.put 0 (.int .i64 l)).put 1 (.slice B k d)
        have q0 := hBn.cell 0
        have q1 := hBn.cell 1
        refine bodyPost_ret (v := .tuple #[.agg #[.int .i64 l, .slice B k d], .string u, .slice (some ⟨g, 0, none⟩) m e]) (by simp [results, Tryz.results12, go_sem, q0, q1]) rfl ?_
        exact ⟨l, B, k, d, rs, u, (some ⟨g, 0, none⟩), m, e, ((x0, p, x2) :: lt), Hl.out, ⟨Hk.out, Hfr.out⟩, hu, ⟨HC7.out.le, by omega⟩, rfl, hO9, hL9, HC7.out.st.src0.next hC9 hG9, hG9⟩

end Go.Proofs.YteafeecndghapaaGreat
