/- Walks over l03Any and l04Case of the reference: some system and some word, weakly. -/
import Derived.Test.YteafeecndghapaaGreatDrw
import Derived.Test.YteafeecndghapaaGreatMg14
import Derived.Test.YteafeecndghapaaGreatShR
namespace Go.Proofs.YteafeecndghapaaGreat
open Go.RowKit Go.Shelf

theorem own_ne_bk {w : World} {base b m n : Nat} {t t' : TypeId} {v : Value} {xs : List Value} {cs : Array Value} (h : w.ownsRow base t m v n xs) (hb : Bk w b t' cs) (ht : t ≠ t') : v.ownBlock ≠ some b := by
  intro e
  rcases h.2 with ⟨hv, hz⟩ | ⟨g, cap, cur, hv, -, hh, -⟩
  · subst hv; cases e
  · subst hv
    have e2 : g = b := by injection e
    subst e2
    unfold Bk at hb
    rw [hb] at hh
    injection hh with hh
    injection hh with h1 h2
    exact ht h2.symm
theorem Src.nearI {w : World} {P : Nat} {A : Option Addr} {n c : Nat} {zs : List Int} (h : Src w P A n c zs) (lo m : Nat) (a b : Int) (ha : a = (lo : Int)) (hb : b = (lo : Int) + (m : Int)) (hlo : lo ≤ 100) (hm : m ≤ 100) :
    Calls Tryz.prog 34 #[.pointer (some ⟨P, 0, none⟩), .int .i64 a, .int .i64 b] w (NearMade P A n c zs w) := by
  subst ha hb
  exact Src.near lo m h hlo hm
theorem news2 {Y : World} {r : Nat} {t : TypeId} {x y : ByteArray} (h : Bk Y r t #[.string x, .string y]) : ∀ j u, [Value.string x, Value.string y][j]? = some u → Y.cell? ((⟨r, 0, none⟩ : Addr).add j) = some u := by
  intro j u hu
  have e : (⟨r, 0, none⟩ : Addr).add j = ⟨r, j, none⟩ := by unfold Addr.add; split <;> simp_all
  rw [e, h.cell j]
  simpa using hu

/-- Where the maker stands: its source, the block of the result, the block of its system, its rules. -/
structure AnySt (w wr : World) (P : Nat) (A : Option Addr) (n c : Nat) (zs : List Int) (sb : Nat) (l : Int) (B : Option Addr) (k d : Nat) (rs : List RuleT) : Prop where
  src0 : Src w P A n c zs
  cur : Cur wr P A n c
  gb : w.grownBy wr (some P)
  bkR : Bk wr w.heap.size 25 #[.int .i64 0, .slice none 0 0]
  bkS : Bk wr sb 25 #[.int .i64 l, .slice B k d]
  lS : w.heap.size < sb
  own : wr.ownsRow (w.heap.size + 1) 68 2 (.slice B k d) k (cellsRule rs)
  len : k = rs.length
  lP : P < w.heap.size
theorem AnySt.src {w wr : World} {P : Nat} {A : Option Addr} {n c : Nat} {zs : List Int} {sb : Nat} {l : Int} {B : Option Addr} {k d : Nat} {rs : List RuleT} (h : AnySt w wr P A n c zs sb l B k d rs) : Src wr P A n c zs := h.src0.next h.cur h.gb
theorem AnySt.next {w wr w' : World} {P : Nat} {A : Option Addr} {n c : Nat} {zs : List Int} {sb : Nat} {l : Int} {B : Option Addr} {k d : Nat} {rs : List RuleT} (h : AnySt w wr P A n c zs sb l B k d rs) (hs : Src w' P A n c zs) (hg : wr.grownBy w' (some P)) : AnySt w w' P A n c zs sb l B k d rs :=
  ⟨h.src0, hs.cur, gb_trans h.gb hg, h.bkR.grown hg (by intro e; injection e with e; have := h.lP; omega), h.bkS.grown hg (by intro e; injection e with e; have := h.lP; have := h.lS; omega), h.lS, own_gb h.own hg (by have := h.lP; omega), h.len, h.lP⟩
theorem AnySt.below {w wr w' : World} {P : Nat} {A : Option Addr} {n c : Nat} {zs : List Int} {sb : Nat} {l : Int} {B : Option Addr} {k d : Nat} {rs : List RuleT} (h : AnySt w wr P A n c zs sb l B k d rs) (hb : Below wr.heap.size wr w') : AnySt w w' P A n c zs sb l B k d rs :=
  h.next (h.src.below hb) (gb_of_below hb _)
theorem AnySt.ne {w wr : World} {P : Nat} {A : Option Addr} {n c : Nat} {zs : List Int} {sb : Nat} {l : Int} {B : Option Addr} {k d : Nat} {rs : List RuleT} (h : AnySt w wr P A n c zs sb l B k d rs) : (Value.slice B k d).ownBlock ≠ some sb := own_ne_bk h.own h.bkS (by decide)
theorem AnySt.let0 {w wr : World} {P : Nat} {A : Option Addr} {n c : Nat} {zs : List Int} {sb : Nat} {l : Int} {B : Option Addr} {k d : Nat} {rs : List RuleT} (h : AnySt w wr P A n c zs sb l B k d rs) (l' : Int) : AnySt w (wr.setCell ⟨sb, 0, none⟩ (.int .i64 l')) P A n c zs sb l' B k d rs := by
  have hlS := h.lS
  have hb : Below w.heap.size wr (wr.setCell ⟨sb, 0, none⟩ (.int .i64 l')) := (Below.refl _ _).setCell (p := ⟨sb, 0, none⟩) (by dsimp only; omega) _
  exact ⟨h.src0, cur_low h.cur hb h.lP, gb_up h.gb hb, h.bkR.far (p := ⟨sb, 0, none⟩) (by dsimp only; omega) _, h.bkS.put 0 _, h.lS, own_far3 h.own (p := ⟨sb, 0, none⟩) h.ne _, h.len, h.lP⟩
/-- A rule is appended. -/
theorem AnySt.push {w wr y w' : World} {P : Nat} {A : Option Addr} {n c : Nat} {zs : List Int} {sb : Nat} {l : Int} {B : Option Addr} {k d : Nat} {rs : List RuleT} (h : AnySt w wr P A n c zs sb l B k d rs) (hy : Below wr.heap.size wr y) {B' : Option Addr} {d' : Nat} {u v : ByteArray}
    (ho : w'.ownsRow (w.heap.size + 1) 68 2 (.slice B' (k + 1) d') (k + 1) (cellsRule rs ++ [.string u, .string v])) (hg : y.grownBy w' (Value.slice B k d).ownBlock) :
    AnySt w (w'.setCell ⟨sb, 1, none⟩ (.slice B' (k + 1) d')) P A n c zs sb l B' (k + 1) d' (rs ++ [(u, v)]) ∧ Bk w' sb 25 #[.int .i64 l, .slice B k d] := by
  have hlS := h.lS
  have hlP := h.lP
  have hbase : ∀ q, (Value.slice B k d).ownBlock = some q → w.heap.size + 1 ≤ q := fun q hq => (h.own.lt _ hq).1
  have hy2 := h.below hy
  have hR : Bk w' w.heap.size 25 #[.int .i64 0, .slice none 0 0] := hy2.bkR.grown hg (fun e => by have := hbase _ e.symm; omega)
  have hS : Bk w' sb 25 #[.int .i64 l, .slice B k d] := hy2.bkS.grown hg (fun e => h.ne e.symm)
  have hlow : Below (w.heap.size + 1) y w' := ⟨hg.os, hg.tape, hg.output, hg.size, fun q hq => by
    refine hg.block q ?_ (fun e => by have := hbase _ e.symm; omega)
    have := hy2.bkR.lt
    omega⟩
  have hC : Cur w' P A n c := cur_low hy2.cur (hlow.mono (by omega)) h.lP
  have hG : w.grownBy w' (some P) := gb_up hy2.gb (hlow.mono (by omega))
  have hb : Below w.heap.size w' (w'.setCell ⟨sb, 1, none⟩ (.slice B' (k + 1) d')) := (Below.refl _ _).setCell (p := ⟨sb, 1, none⟩) (by dsimp only; omega) _
  have hne : (Value.slice B' (k + 1) d').ownBlock ≠ some sb := own_ne_bk ho hS (by decide)
  have hcr : cellsRule (rs ++ [(u, v)]) = cellsRule rs ++ [.string u, .string v] := by simp [cellsRule, encRule]
  exact ⟨⟨h.src0, cur_low hC hb h.lP, gb_up hG hb, hR.far (p := ⟨sb, 1, none⟩) (by dsimp only; omega) _, hS.put 1 _, h.lS, by rw [hcr]; exact own_far3 ho (p := ⟨sb, 1, none⟩) hne _, by rw [List.length_append, ← h.len]; rfl, h.lP⟩, hS⟩
/-- The maker's own system, behind the call that made it. -/
theorem AnySt.make {w W w1 : World} {P : Nat} {A : Option Addr} {n c : Nat} {zs : List Int} {l : Int} {B : Option Addr} {k d : Nat} {rs : List RuleT} (H : Src w P A n c zs) (hW : W = w.alloc (.cells #[.int .i64 0, .slice none 0 0] 25))
    (hO : w1.ownsRow W.heap.size 68 2 (.slice B k d) k (cellsRule rs)) (hk : k = rs.length) (hs1 : Src w1 P A n c zs) (hg1 : W.grownBy w1 (some P)) :
    AnySt w (w1.alloc (.cells #[.int .i64 l, .slice B k d] 25)) P A n c zs w1.heap.size l B k d rs := by
  have lP := H.cur.lt
  have hw1 := (Below.refl w.heap.size w).alloc (Nat.le_refl _) (.cells #[.int .i64 0, .slice none 0 0] 25)
  have hR := Bk.new w 25 #[.int .i64 0, .slice none 0 0]
  have hWs : W.heap.size = w.heap.size + 1 := by rw [hW]; simp
  rw [← hW] at hw1 hR
  rw [hWs] at hO
  have hR1 := hR.grown hg1 (by intro e; injection e with e; omega)
  have hb := (Below.refl w1.heap.size w1).alloc (Nat.le_refl _) (.cells #[.int .i64 l, .slice B k d] 25)
  exact ⟨H, (hs1.below hb).cur, gb_trans (gb_trans (gb_of_below hw1 _) hg1) (gb_of_below hb _), hR1.alloc _, Bk.new _ _ _, hR1.lt, own_keep hO hb (Nat.le_refl _), hk, lP⟩
/-- Another system is stored in the maker's own. -/
theorem AnySt.set {w wr : World} {P : Nat} {A : Option Addr} {n c : Nat} {zs : List Int} {sb : Nat} {l : Int} {B : Option Addr} {k d : Nat} {rs : List RuleT} (h : AnySt w wr P A n c zs sb l B k d rs) {l' : Int} {B' : Option Addr} {k' d' : Nat} {rs' : List RuleT}
    (ho : wr.ownsRow (w.heap.size + 1) 68 2 (.slice B' k' d') k' (cellsRule rs')) (hl : k' = rs'.length) : AnySt w ((wr.setCell ⟨sb, 0, none⟩ (.int .i64 l')).setCell ⟨sb, 1, none⟩ (.slice B' k' d')) P A n c zs sb l' B' k' d' rs' := by
  have hlS := h.lS
  have hb : Below w.heap.size wr ((wr.setCell ⟨sb, 0, none⟩ (.int .i64 l')).setCell ⟨sb, 1, none⟩ (.slice B' k' d')) := ((Below.refl _ _).setCell (p := ⟨sb, 0, none⟩) (by dsimp only; omega) _).setCell (p := ⟨sb, 1, none⟩) (by dsimp only; omega) _
  have hne : (Value.slice B' k' d').ownBlock ≠ some sb := own_ne_bk ho h.bkS (by decide)
  exact ⟨h.src0, cur_low h.cur hb h.lP, gb_up h.gb hb, (h.bkR.far (p := ⟨sb, 0, none⟩) (by dsimp only; omega) _).far (p := ⟨sb, 1, none⟩) (by dsimp only; omega) _, (h.bkS.put 0 _).put 1 _, h.lS, own_far3 (own_far3 ho (p := ⟨sb, 0, none⟩) hne _) (p := ⟨sb, 1, none⟩) hne _, hl, h.lP⟩
theorem meetA {F G : ByteArray → ByteArray → Nat → World → Prop} {goal : Prop} (leaf : (∀ a b r y, F a b r y → G a b r y) → goal) (key : ∀ a b r y, F a b r y → G a b r y) : goal := leaf key
theorem meetB {F G : ByteArray → Nat → World → Prop} {goal : Prop} (leaf : (∀ a r y, F a r y → G a r y) → goal) (key : ∀ a r y, F a r y → G a r y) : goal := leaf key
/-- Rules that are not large. -/
def Fair (rs : List RuleT) : Prop := rs.length ≤ 100 ∧ ∀ x ∈ rs, x.1.size ≤ 100 ∧ x.2.size ≤ 100
theorem fair_sys {l : Int} {rs : List RuleT} (h : systemOk l rs = true) : rs.length ≤ 20 ∧ ∀ x ∈ rs, x.1.size ≤ 100 ∧ x.2.size ≤ 100 := by
  have h1 := sys_rules h
  exact ⟨by have := rulesOk_12 h1; omega, fun x hx => by have := rulesOk_side h1 hx; omega⟩
theorem fair_push {rs : List RuleT} {u v : ByteArray} (h : ∀ x ∈ rs, x.1.size ≤ 100 ∧ x.2.size ≤ 100) (hu : u.size ≤ 100) (hv : v.size ≤ 100) : ∀ x ∈ rs ++ [(u, v)], x.1.size ≤ 100 ∧ x.2.size ≤ 100 := fun x hx => by
  rcases List.mem_append.1 hx with hx | hx
  · exact h x hx
  · rw [List.mem_singleton.1 hx]; exact ⟨hu, hv⟩


def AnyS (P : Nat) (A : Option Addr) (n c : Nat) (zs : List Int) (w : World) (e : Ending) (w' : World) : Prop := ∃ (l : Int) (B : Option Addr) (k d : Nat) (rs : List RuleT), (-9223372036854775808 ≤ l ∧ l ≤ 9223372036854775807) ∧ (k = rs.length ∧ Fair rs) ∧ e = .returned (.agg #[.int .i64 l, .slice B k d]) ∧ w'.ownsRow w.heap.size 68 2 (.slice B k d) k (cellsRule rs) ∧ Src w' P A n c zs ∧ w.grownBy w' (some P)
set_option maxRecDepth 100000 in
set_option maxHeartbeats 4000000 in
theorem l03Any_any {P : Nat} {A : Option Addr} {n c : Nat} {zs : List Int} (w : World) (h : Src w P A n c zs) : Calls Tryz.prog 59 #[.pointer (some ⟨P, 0, none⟩)] w (AnyS P A n c zs w) := by
  have lP := h.cur.lt
  have hw1 := (Below.refl w.heap.size w).alloc (Nat.le_refl _) (.cells #[.int .i64 0, .slice none 0 0] 25)
  have hR := Bk.new w 25 #[.int .i64 0, .slice none 0 0]
  have h1 := h.below hw1
  obtain ⟨W, hW⟩ : ∃ z, z = w.alloc (.cells #[.int .i64 0, .slice none 0 0] 25) := ⟨_, rfl⟩
  rw [← hW] at hw1 hR h1
  have hWs : W.heap.size = w.heap.size + 1 := by rw [hW]; simp
  have H := Lib.hid h
  clear h
  have Hw1 := Lib.hid hw1
  clear hw1
  have HR := Lib.hid hR
  clear hR
  have H1 := Lib.hid h1
  clear h1
  have HW := Lib.hid hW
  clear hW
  have HWs := Lib.hid hWs
  clear hWs
  go_enter Tryz.func59, Tryz.ntmps59
  go_wp2_with fail
  rw [← HW.out]
  with_reducible refine (l03Draw_any _ H1.out).mono ?_
  rintro e w1 ⟨l, B, k, d, rs, hsy, hk, rfl, hO, hs1, hg1⟩
  have hfr := fair_sys hsy
  have hin := sys_in hsy
  have hR1 := HR.out.grown hg1 (by intro e; injection e with e; omega)
  have hlR := hR1.lt
  rw [HWs.out] at hO
  have hO2 := own_keep hO ((Below.refl w1.heap.size w1).alloc (Nat.le_refl _) (.cells #[.int .i64 l, .slice B k d] 25)) (Nat.le_refl _)
  have hD : AnySt w (w1.alloc (.cells #[.int .i64 l, .slice B k d] 25)) P A n c zs w1.heap.size l B k d rs := by
    have hb := (Below.refl w1.heap.size w1).alloc (Nat.le_refl _) (.cells #[.int .i64 l, .slice B k d] 25)
    exact ⟨H.out, (hs1.below hb).cur, gb_trans (gb_trans (gb_of_below Hw1.out _) hg1) (gb_of_below hb _), hR1.alloc _, Bk.new _ _ _, hlR, hO2, hk, lP⟩
  obtain ⟨sb, hsb⟩ : ∃ z, z = w1.heap.size := ⟨_, rfl⟩
  obtain ⟨w2, hw2⟩ : ∃ z, z = w1.alloc (.cells #[.int .i64 l, .slice B k d] 25) := ⟨_, rfl⟩
  rw [← hsb, ← hw2] at hD
  clear hO hO2 hs1 hg1 hR1 hlR HR H1 Hw1 HW HWs
  have HD := Lib.hid hD
  clear hD
  have Hk := Lib.hid hk
  clear hk
  have Hsy := Lib.hid hsy
  clear hsy
  have Hfr := Lib.hid hfr
  clear hfr
  have Hsb := Lib.hid hsb
  clear hsb
  have Hw2 := Lib.hid hw2
  clear hw2
  go_wp2_with fail
  rw [← Hw2.out]
  try rw [← Hsb.out]
  have sl0 := HD.out.bkS.lt
  with_reducible refine (HD.out.src.underI 12 12 rfl (by omega) (by omega)).mono ?_
  rintro e w3 ⟨x, hx, rfl, hs3, hg3⟩
  have hD3 := HD.out.next hs3 hg3
  clear hs3 hg3 HD sl0
  have c0 : w3.cell? ⟨w.heap.size, 0, none⟩ = some (.int .i64 0) := by rw [hD3.bkR.cell]; rfl
  have c1 : w3.cell? ⟨w.heap.size, 1, none⟩ = some (.slice none 0 0) := by rw [hD3.bkR.cell]; rfl
  have f0 := hD3.bkR.free 0
  have f1 := hD3.bkR.free 1
  have lb := hD3.bkR.lt
  have s0 : w3.cell? ⟨sb, 0, none⟩ = some (.int .i64 l) := by rw [hD3.bkS.cell]; rfl
  have s1 : w3.cell? ⟨sb, 1, none⟩ = some (.slice B k d) := by rw [hD3.bkS.cell]; rfl
  have sf0 := hD3.bkS.free 0
  have sf1 := hD3.bkS.free 1
  have sl := hD3.bkS.lt
  have HD3 := Lib.hid hD3
  clear hD3
  have hkl : k ≤ 20 := by rw [Hk.out]; exact Hfr.out.1
  by_cases x0 : x = 0
  · subst x0
    go_wp2_with fail
    with_reducible refine (HD3.out.src.nearI 1 3 1 4 rfl rfl (by omega) (by omega)).mono ?_
    rintro e w4 ⟨l4, hl4, rfl, hs4, hg4⟩
    have hD4 := HD3.out.next hs4 hg4
    clear hs4 hg4 HD3 c0 c1 f0 f1 lb s0 s1 sf0 sf1 sl
    have c0 : w4.cell? ⟨w.heap.size, 0, none⟩ = some (.int .i64 0) := by rw [hD4.bkR.cell]; rfl
    have c1 : w4.cell? ⟨w.heap.size, 1, none⟩ = some (.slice none 0 0) := by rw [hD4.bkR.cell]; rfl
    have f0 := hD4.bkR.free 0
    have f1 := hD4.bkR.free 1
    have lb := hD4.bkR.lt
    have s0 : w4.cell? ⟨sb, 0, none⟩ = some (.int .i64 l) := by rw [hD4.bkS.cell]; rfl
    have s1 : w4.cell? ⟨sb, 1, none⟩ = some (.slice B k d) := by rw [hD4.bkS.cell]; rfl
    have sf0 := hD4.bkS.free 0
    have sf1 := hD4.bkS.free 1
    have sl := hD4.bkS.lt
    have hD5 := hD4.let0 l4
    have HD4 := Lib.hid hD4
    clear hD4
    have HD5 := Lib.hid hD5
    clear hD5
    have hlS := HD5.out.lS
    go_wp2_with fail
    have hW9 : Below w.heap.size (w4.setCell ⟨sb, 0, none⟩ (.int .i64 l4)) (((w4.setCell ⟨sb, 0, none⟩ (.int .i64 l4)).setCell ⟨w.heap.size, 0, none⟩ (.int .i64 l4)).setCell ⟨w.heap.size, 1, none⟩ (.slice B k d)) := ((Below.refl _ _).setCell (p := ⟨w.heap.size, 0, none⟩) (Nat.le_refl _) _).setCell (p := ⟨w.heap.size, 1, none⟩) (Nat.le_refl _) _
    have hne : (Value.slice B k d).ownBlock ≠ some w.heap.size := by
      intro e
      have := (HD5.out.own.lt _ e).1
      omega
    have hO9 := own_mono (own_far3 (own_far3 HD5.out.own (p := ⟨w.heap.size, 0, none⟩) hne (.int .i64 l4)) (p := ⟨w.heap.size, 1, none⟩) hne (.slice B k d)) (b' := w.heap.size) (by omega)
    have hC9 := cur_low HD5.out.cur hW9 HD5.out.lP
    have hG9 := gb_up HD5.out.gb hW9
    have hBn := (HD5.out.bkR.put 0 (.int .i64 l4)).put 1 (.slice B k d)
    have q0 := hBn.cell 0
    have q1 := hBn.cell 1
    refine bodyPost_ret (v := .agg #[.int .i64 l4, .slice B k d]) (by simp [results, Tryz.results59, go_sem, q0, q1]) rfl ?_
    exact ⟨l4, B, k, d, rs, hl4, ⟨Hk.out, ⟨by have := Hfr.out.1; omega, Hfr.out.2⟩⟩, rfl, hO9, HD5.out.src0.next hC9 hG9, hG9⟩
  by_cases x1 : x = 1
  · subst x1
    clear x0 c0 c1 f0 f1 lb s0 s1 sf0 sf1 sl
    go_wp2_with fail
    have hD3 := HD3.out
    clear HD3
    refine wp_region_held_drew (S := (fun _ => True)) (by kernel_rfl) (trivial) (fun hHeld => ?_)
    obtain ⟨y0_, hy0⟩ : ∃ z, z = World.drew w3 := ⟨_, rfl⟩
    have hD0_ : AnySt w (World.drew w3) P A n c zs sb l B k d rs := hD3.next hD3.src.drew gb_drew
    rw [← hy0] at hD0_
    rw [← hy0]
    clear hy0
    refine wpAnyH_take (i := 0) (oi := ?oi226) (v := ?val226) ?hi226 ?hs226 ?hf226 ?hr226 ?hQ226 ?hy226 ?hS226 ?hrest226
    case hi226 => (simp only [List.getElem?_toArray, List.getElem?_cons_succ, List.getElem?_cons_zero] <;> exact rfl)
    case hs226 => kernel_rfl
    case hf226 => kernel_rfl
    case hr226 => kernel_rfl
    case hQ226 => exact fun _ _ _ h => h
    case hS226 => assumption
    case hy226 => (refine Or.inl ⟨by rfl, ?_⟩; intro w hSw; (try dsimp only at hSw); go_simp; try with_reducible rfl)
    simp only [Act.put, List.setIfInBounds_toArray, List.set_cons_zero, List.set_cons_succ]
    refine wpAnyH_take (i := 2) (oi := ?oi235) (v := ?val235) ?hi235 ?hs235 ?hf235 ?hr235 ?hQ235 ?hy235 ?hS235 ?hrest235
    case hi235 => (simp only [List.getElem?_toArray, List.getElem?_cons_succ, List.getElem?_cons_zero] <;> exact rfl)
    case hs235 => kernel_rfl
    case hf235 => kernel_rfl
    case hr235 => kernel_rfl
    case hQ235 => exact fun _ _ _ h => h
    case hS235 => assumption
    case hy235 => (refine Or.inl ⟨by rfl, ?_⟩; intro w hSw; (try dsimp only at hSw); go_simp; try with_reducible rfl)
    simp only [Act.put, List.setIfInBounds_toArray, List.set_cons_zero, List.set_cons_succ]
    refine wpAnyH_take (i := 4) (oi := ?oi244) (v := ?val244) ?hi244 ?hs244 ?hf244 ?hr244 ?hQ244 ?hy244 ?hS244 ?hrest244
    case hi244 => (simp only [List.getElem?_toArray, List.getElem?_cons_succ, List.getElem?_cons_zero] <;> exact rfl)
    case hs244 => kernel_rfl
    case hf244 => kernel_rfl
    case hr244 => kernel_rfl
    case hQ244 => exact fun _ _ _ h => h
    case hS244 => assumption
    case hy244 => (refine Or.inl ⟨by rfl, ?_⟩; intro w hSw; (try dsimp only at hSw); go_simp; try with_reducible rfl)
    simp only [Act.put, List.setIfInBounds_toArray, List.set_cons_zero, List.set_cons_succ]
    apply meetA (F := fun u v r y => AnySt w y P A n c zs sb l B k d rs ∧ Bk y r 68 #[.string (u), .string (v)] ∧ u.size ≤ 2 ∧ v.size ≤ 4)
    · intro hkey
      refine wpAnyH_ready (rs := [1, 3]) (by kernel_rfl) (by simp) ?_
      refine AllReadyH.cons rfl (fun K hK => ?_) (AllReadyH.cons rfl (fun K hK => ?_) AllReadyH.nil)
      · skip
        have lc : y0_.cell? ⟨sb, 1, none⟩ = some (.slice B k d) := by rw [hD0_.bkS.cell]; rfl
        have ls := hD0_.bkS.lt
        go_simp
        refine hK.out _ _ trivial (fun hHeld => ?_)
        clear hK K
        first | simp only [Act.put, List.setIfInBounds_toArray, List.set_cons_zero, List.set_cons_succ] | skip
        clear lc ls
        refine wpAnyH_ready (rs := [3]) (by kernel_rfl) (by simp) ?_
        refine AllReadyH.cons rfl (fun K hK => ?_) AllReadyH.nil
        go_simp
        with_reducible refine (hD0_.src.wordI 2 2 2 2 rfl rfl (by omega) (by omega) (by omega)).mono ?_
        rintro e y3_ ⟨u1_, hu2_, -, rfl, hs4_, hg5_⟩
        have hD6_ := hD0_.next hs4_ hg5_
        refine hK.out _ _ trivial (fun hHeld => ?_)
        clear hK K
        first | simp only [Act.put, List.setIfInBounds_toArray, List.set_cons_zero, List.set_cons_succ] | skip
        refine wpAnyH_ready (rs := [5]) (by kernel_rfl) (by simp) ?_
        refine AllReadyH.cons rfl (fun K hK => ?_) AllReadyH.nil
        go_simp
        with_reducible refine (hD6_.src.wordI 2 4 2 4 rfl rfl (by omega) (by omega) (by omega)).mono ?_
        rintro e y9_ ⟨u7_, hu8_, -, rfl, hs10_, hg11_⟩
        have hD12_ := hD6_.next hs10_ hg11_
        refine hK.out _ _ trivial (fun hHeld => ?_)
        clear hK K
        first | simp only [Act.put, List.setIfInBounds_toArray, List.set_cons_zero, List.set_cons_succ] | skip
        refine wpAnyH_take (i := 6) (oi := ?oi283) (v := ?val283) ?hi283 ?hs283 ?hf283 ?hr283 ?hQ283 ?hy283 ?hS283 ?hrest283
        case hi283 => (simp only [List.getElem?_toArray, List.getElem?_cons_succ, List.getElem?_cons_zero] <;> exact rfl)
        case hs283 => kernel_rfl
        case hf283 => kernel_rfl
        case hr283 => kernel_rfl
        case hQ283 => exact fun _ _ _ h => h
        case hS283 => assumption
        case hy283 => (refine Or.inl ⟨by rfl, ?_⟩; intro w hSw; (try dsimp only at hSw); go_simp; try with_reducible rfl)
        simp only [Act.put, List.setIfInBounds_toArray, List.set_cons_zero, List.set_cons_succ]
        refine wpAnyH_ready (rs := [7]) (by kernel_rfl) (by simp) ?_
        refine AllReadyH.cons rfl (fun K hK => ?_) AllReadyH.nil
        go_simp
        refine hK.out _ _ trivial (fun hHeld => ?_)
        clear hK K
        first | simp only [Act.put, List.setIfInBounds_toArray, List.set_cons_zero, List.set_cons_succ] | skip
        have hD16_ := hD12_.below ((Below.refl _ _).alloc (Nat.le_refl _) (.cells #[.string (u1_), .string (u7_)] 68))
        have bk15_ := Bk.new y9_ 68 #[.string (u1_), .string (u7_)]
        obtain ⟨y13_, hy⟩ : ∃ z, z = World.alloc y9_ (.cells #[.string (u1_), .string (u7_)] 68) := ⟨_, rfl⟩
        obtain ⟨r14_, hb⟩ : ∃ z, z = (World.heap y9_).size := ⟨_, rfl⟩
        rw [← hy] at bk15_ hD16_
        rw [← hb] at bk15_
        rw [← hy, ← hb]
        clear hy hb
        exact hkey u1_ u7_ r14_ y13_ ⟨hD16_, bk15_, hu2_, hu8_⟩
      · skip
        go_simp
        with_reducible refine (hD0_.src.wordI 2 2 2 2 rfl rfl (by omega) (by omega) (by omega)).mono ?_
        rintro e y19_ ⟨u17_, hu18_, -, rfl, hs20_, hg21_⟩
        have hD22_ := hD0_.next hs20_ hg21_
        refine hK.out _ _ trivial (fun hHeld => ?_)
        clear hK K
        first | simp only [Act.put, List.setIfInBounds_toArray, List.set_cons_zero, List.set_cons_succ] | skip
        refine wpAnyH_ready (rs := [1, 5]) (by kernel_rfl) (by simp) ?_
        refine AllReadyH.cons rfl (fun K hK => ?_) (AllReadyH.cons rfl (fun K hK => ?_) AllReadyH.nil)
        · skip
          have lc : y19_.cell? ⟨sb, 1, none⟩ = some (.slice B k d) := by rw [hD22_.bkS.cell]; rfl
          have ls := hD22_.bkS.lt
          go_simp
          refine hK.out _ _ trivial (fun hHeld => ?_)
          clear hK K
          first | simp only [Act.put, List.setIfInBounds_toArray, List.set_cons_zero, List.set_cons_succ] | skip
          clear lc ls
          refine wpAnyH_ready (rs := [5]) (by kernel_rfl) (by simp) ?_
          refine AllReadyH.cons rfl (fun K hK => ?_) AllReadyH.nil
          go_simp
          with_reducible refine (hD22_.src.wordI 2 4 2 4 rfl rfl (by omega) (by omega) (by omega)).mono ?_
          rintro e y25_ ⟨u23_, hu24_, -, rfl, hs26_, hg27_⟩
          have hD28_ := hD22_.next hs26_ hg27_
          refine hK.out _ _ trivial (fun hHeld => ?_)
          clear hK K
          first | simp only [Act.put, List.setIfInBounds_toArray, List.set_cons_zero, List.set_cons_succ] | skip
          refine wpAnyH_take (i := 6) (oi := ?oi334) (v := ?val334) ?hi334 ?hs334 ?hf334 ?hr334 ?hQ334 ?hy334 ?hS334 ?hrest334
          case hi334 => (simp only [List.getElem?_toArray, List.getElem?_cons_succ, List.getElem?_cons_zero] <;> exact rfl)
          case hs334 => kernel_rfl
          case hf334 => kernel_rfl
          case hr334 => kernel_rfl
          case hQ334 => exact fun _ _ _ h => h
          case hS334 => assumption
          case hy334 => (refine Or.inl ⟨by rfl, ?_⟩; intro w hSw; (try dsimp only at hSw); go_simp; try with_reducible rfl)
          simp only [Act.put, List.setIfInBounds_toArray, List.set_cons_zero, List.set_cons_succ]
          refine wpAnyH_ready (rs := [7]) (by kernel_rfl) (by simp) ?_
          refine AllReadyH.cons rfl (fun K hK => ?_) AllReadyH.nil
          go_simp
          refine hK.out _ _ trivial (fun hHeld => ?_)
          clear hK K
          first | simp only [Act.put, List.setIfInBounds_toArray, List.set_cons_zero, List.set_cons_succ] | skip
          have hD32_ := hD28_.below ((Below.refl _ _).alloc (Nat.le_refl _) (.cells #[.string (u17_), .string (u23_)] 68))
          have bk31_ := Bk.new y25_ 68 #[.string (u17_), .string (u23_)]
          obtain ⟨y29_, hy⟩ : ∃ z, z = World.alloc y25_ (.cells #[.string (u17_), .string (u23_)] 68) := ⟨_, rfl⟩
          obtain ⟨r30_, hb⟩ : ∃ z, z = (World.heap y25_).size := ⟨_, rfl⟩
          rw [← hy] at bk31_ hD32_
          rw [← hb] at bk31_
          rw [← hy, ← hb]
          clear hy hb
          exact hkey u17_ u23_ r30_ y29_ ⟨hD32_, bk31_, hu18_, hu24_⟩
        · skip
          go_simp
          with_reducible refine (hD22_.src.wordI 2 4 2 4 rfl rfl (by omega) (by omega) (by omega)).mono ?_
          rintro e y35_ ⟨u33_, hu34_, -, rfl, hs36_, hg37_⟩
          have hD38_ := hD22_.next hs36_ hg37_
          refine hK.out _ _ trivial (fun hHeld => ?_)
          clear hK K
          first | simp only [Act.put, List.setIfInBounds_toArray, List.set_cons_zero, List.set_cons_succ] | skip
          refine wpAnyH_take (i := 6) (oi := ?oi366) (v := ?val366) ?hi366 ?hs366 ?hf366 ?hr366 ?hQ366 ?hy366 ?hS366 ?hrest366
          case hi366 => (simp only [List.getElem?_toArray, List.getElem?_cons_succ, List.getElem?_cons_zero] <;> exact rfl)
          case hs366 => kernel_rfl
          case hf366 => kernel_rfl
          case hr366 => kernel_rfl
          case hQ366 => exact fun _ _ _ h => h
          case hS366 => assumption
          case hy366 => (refine Or.inl ⟨by rfl, ?_⟩; intro w hSw; (try dsimp only at hSw); go_simp; try with_reducible rfl)
          simp only [Act.put, List.setIfInBounds_toArray, List.set_cons_zero, List.set_cons_succ]
          refine wpAnyH_ready (rs := [1, 7]) (by kernel_rfl) (by simp) ?_
          refine AllReadyH.cons rfl (fun K hK => ?_) (AllReadyH.cons rfl (fun K hK => ?_) AllReadyH.nil)
          · skip
            have lc : y35_.cell? ⟨sb, 1, none⟩ = some (.slice B k d) := by rw [hD38_.bkS.cell]; rfl
            have ls := hD38_.bkS.lt
            go_simp
            refine hK.out _ _ trivial (fun hHeld => ?_)
            clear hK K
            first | simp only [Act.put, List.setIfInBounds_toArray, List.set_cons_zero, List.set_cons_succ] | skip
            clear lc ls
            refine wpAnyH_ready (rs := [7]) (by kernel_rfl) (by simp) ?_
            refine AllReadyH.cons rfl (fun K hK => ?_) AllReadyH.nil
            go_simp
            refine hK.out _ _ trivial (fun hHeld => ?_)
            clear hK K
            first | simp only [Act.put, List.setIfInBounds_toArray, List.set_cons_zero, List.set_cons_succ] | skip
            have hD42_ := hD38_.below ((Below.refl _ _).alloc (Nat.le_refl _) (.cells #[.string (u17_), .string (u33_)] 68))
            have bk41_ := Bk.new y35_ 68 #[.string (u17_), .string (u33_)]
            obtain ⟨y39_, hy⟩ : ∃ z, z = World.alloc y35_ (.cells #[.string (u17_), .string (u33_)] 68) := ⟨_, rfl⟩
            obtain ⟨r40_, hb⟩ : ∃ z, z = (World.heap y35_).size := ⟨_, rfl⟩
            rw [← hy] at bk41_ hD42_
            rw [← hb] at bk41_
            rw [← hy, ← hb]
            clear hy hb
            exact hkey u17_ u33_ r40_ y39_ ⟨hD42_, bk41_, hu18_, hu34_⟩
          · skip
            go_simp
            refine hK.out _ _ trivial (fun hHeld => ?_)
            clear hK K
            first | simp only [Act.put, List.setIfInBounds_toArray, List.set_cons_zero, List.set_cons_succ] | skip
            have hD46_ := hD38_.below ((Below.refl _ _).alloc (Nat.le_refl _) (.cells #[.string (u17_), .string (u33_)] 68))
            have bk45_ := Bk.new y35_ 68 #[.string (u17_), .string (u33_)]
            obtain ⟨y43_, hy⟩ : ∃ z, z = World.alloc y35_ (.cells #[.string (u17_), .string (u33_)] 68) := ⟨_, rfl⟩
            obtain ⟨r44_, hb⟩ : ∃ z, z = (World.heap y35_).size := ⟨_, rfl⟩
            rw [← hy] at bk45_ hD46_
            rw [← hb] at bk45_
            rw [← hy, ← hb]
            clear hy hb
            refine wpAnyH_ready (rs := [1]) (by kernel_rfl) (by simp) ?_
            refine AllReadyH.cons rfl (fun K hK => ?_) AllReadyH.nil
            have lc : y43_.cell? ⟨sb, 1, none⟩ = some (.slice B k d) := by rw [hD46_.bkS.cell]; rfl
            have ls := hD46_.bkS.lt
            go_simp
            refine hK.out _ _ trivial (fun hHeld => ?_)
            clear hK K
            first | simp only [Act.put, List.setIfInBounds_toArray, List.set_cons_zero, List.set_cons_succ] | skip
            clear lc ls
            exact hkey u17_ u33_ r44_ y43_ ⟨hD46_, bk45_, hu18_, hu34_⟩
    intro u v r y7 ⟨hD7, bk7, hu, hv⟩
    have hz8 := hD7.bkR.lt
    refine wpAnyH_ready (rs := [8]) (by kernel_rfl) (by simp) ?_
    refine AllReadyH.cons rfl (fun K hK => ?_) AllReadyH.nil
    (refine step_append_own y7 rfl _ _ 23 rfl (w.heap.size + 1) 68 2 32 _ Tryz.underlying23 info_Rule rfl (by omega) (.slice B k d) k _ rfl hD7.own ⟨r, 0, none⟩ 1 1 [.string (u), .string (v)] rfl rfl (news2 bk7) (one_cell_ruleP _ _) (by unfold maxLen; omega) (by omega) (by omega) ?_; intro B9 d9 w9 hO9 hG9)
    refine hK.out _ _ (trivial) (fun hHeld2 => ?_)
    clear hK K hHeld
    have hHeld := hHeld2
    clear hHeld2
    first | simp only [Act.put, List.setIfInBounds_toArray, List.set_cons_zero, List.set_cons_succ] | skip
    obtain ⟨hD9, hB9⟩ := hD7.push (Below.refl _ _) hO9 hG9
    clear hz8 hO9 hG9 bk7
    refine wpAnyH_take (i := 9) (oi := ?oi435) (v := ?val435) ?hi435 ?hs435 ?hf435 ?hr435 ?hQ435 ?hy435 ?hS435 ?hrest435
    case hi435 => (simp only [List.getElem?_toArray, List.getElem?_cons_succ, List.getElem?_cons_zero] <;> exact rfl)
    case hs435 => kernel_rfl
    case hf435 => kernel_rfl
    case hr435 => kernel_rfl
    case hQ435 => exact fun _ _ _ h => h
    case hS435 => assumption
    case hy435 => (refine Or.inl ⟨by rfl, ?_⟩; intro w hSw; (try dsimp only at hSw); go_simp; try with_reducible rfl)
    simp only [Act.put, List.setIfInBounds_toArray, List.set_cons_zero, List.set_cons_succ]
    have c9 : w9.cell? ⟨sb, 1, none⟩ = some (.slice B k d) := by rw [hB9.cell]; rfl
    have f9 := hB9.free 1
    have l9 := hB9.lt
    refine wpAnyH_ready (rs := [10]) (by kernel_rfl) (by simp) ?_
    refine AllReadyH.cons rfl (fun K hK => ?_) AllReadyH.nil
    (go_simp)
    refine hK.out _ _ (trivial) (fun hHeld2 => ?_)
    clear hK K hHeld
    have hHeld := hHeld2
    clear hHeld2
    first | simp only [Act.put, List.setIfInBounds_toArray, List.set_cons_zero, List.set_cons_succ] | skip
    clear c9 f9 l9 hB9
    refine wpAnyH_done (by kernel_rfl) ?_ _
    have hfp := fair_push (u := u) (v := v) Hfr.out.2 (by omega) (by omega)
    obtain ⟨w10, hw10⟩ : ∃ z, z = (w9.setCell ⟨sb, 1, none⟩ (.slice B9 (k + 1) d9)) := ⟨_, rfl⟩
    rw [← hw10] at hD9
    rw [← hw10]
    clear hw10 hD7 hHeld
    have c0 : w10.cell? ⟨w.heap.size, 0, none⟩ = some (.int .i64 0) := by rw [hD9.bkR.cell]; rfl
    have c1 : w10.cell? ⟨w.heap.size, 1, none⟩ = some (.slice none 0 0) := by rw [hD9.bkR.cell]; rfl
    have f0 := hD9.bkR.free 0
    have f1 := hD9.bkR.free 1
    have lb := hD9.bkR.lt
    have s0 : w10.cell? ⟨sb, 0, none⟩ = some (.int .i64 l) := by rw [hD9.bkS.cell]; rfl
    have s1 : w10.cell? ⟨sb, 1, none⟩ = some (.slice B9 (k + 1) d9) := by rw [hD9.bkS.cell]; rfl
    have sf0 := hD9.bkS.free 0
    have sf1 := hD9.bkS.free 1
    have sl := hD9.bkS.lt
    have HD9 := Lib.hid hD9
    clear hD9
    have Hfp := Lib.hid hfp
    clear hfp
    have hlS := HD9.out.lS
    go_wp2_with fail
    have hW9 : Below w.heap.size w10 ((w10.setCell ⟨w.heap.size, 0, none⟩ (.int .i64 l)).setCell ⟨w.heap.size, 1, none⟩ (.slice B9 (k + 1) d9)) := ((Below.refl _ _).setCell (p := ⟨w.heap.size, 0, none⟩) (Nat.le_refl _) _).setCell (p := ⟨w.heap.size, 1, none⟩) (Nat.le_refl _) _
    have hne : (Value.slice B9 (k + 1) d9).ownBlock ≠ some w.heap.size := by
      intro e
      have := (HD9.out.own.lt _ e).1
      omega
    have hO9 := own_mono (own_far3 (own_far3 HD9.out.own (p := ⟨w.heap.size, 0, none⟩) hne (.int .i64 l)) (p := ⟨w.heap.size, 1, none⟩) hne (.slice B9 (k + 1) d9)) (b' := w.heap.size) (by omega)
    have hC9 := cur_low HD9.out.cur hW9 HD9.out.lP
    have hG9 := gb_up HD9.out.gb hW9
    have hBn := (HD9.out.bkR.put 0 (.int .i64 l)).put 1 (.slice B9 (k + 1) d9)
    have q0 := hBn.cell 0
    have q1 := hBn.cell 1
    refine bodyPost_ret (v := .agg #[.int .i64 l, .slice B9 (k + 1) d9]) (by simp [results, Tryz.results59, go_sem, q0, q1]) rfl ?_
    exact ⟨l, B9, (k + 1), d9, (rs ++ [(u, v)]), ⟨by omega, by omega⟩, ⟨by rw [List.length_append, ← Hk.out]; rfl, ⟨by rw [List.length_append, ← Hk.out]; simp; omega, Hfp.out⟩⟩, rfl, hO9, HD9.out.src0.next hC9 hG9, hG9⟩
  by_cases x2 : x = 2
  · subst x2
    clear x0 x1 c0 c1 f0 f1 lb s0 s1 sf0 sf1 sl
    go_wp2_with fail
    have hD3 := HD3.out
    clear HD3
    refine wp_region_held_drew (S := (fun _ => True)) (by kernel_rfl) (trivial) (fun hHeld => ?_)
    obtain ⟨y0_, hy0⟩ : ∃ z, z = World.drew w3 := ⟨_, rfl⟩
    have hD0_ : AnySt w (World.drew w3) P A n c zs sb l B k d rs := hD3.next hD3.src.drew gb_drew
    rw [← hy0] at hD0_
    rw [← hy0]
    clear hy0
    refine wpAnyH_take (i := 0) (oi := ?oi503) (v := ?val503) ?hi503 ?hs503 ?hf503 ?hr503 ?hQ503 ?hy503 ?hS503 ?hrest503
    case hi503 => (simp only [List.getElem?_toArray, List.getElem?_cons_succ, List.getElem?_cons_zero] <;> exact rfl)
    case hs503 => kernel_rfl
    case hf503 => kernel_rfl
    case hr503 => kernel_rfl
    case hQ503 => exact fun _ _ _ h => h
    case hS503 => assumption
    case hy503 => (refine Or.inl ⟨by rfl, ?_⟩; intro w hSw; (try dsimp only at hSw); go_simp; try with_reducible rfl)
    simp only [Act.put, List.setIfInBounds_toArray, List.set_cons_zero, List.set_cons_succ]
    refine wpAnyH_take (i := 2) (oi := ?oi512) (v := ?val512) ?hi512 ?hs512 ?hf512 ?hr512 ?hQ512 ?hy512 ?hS512 ?hrest512
    case hi512 => (simp only [List.getElem?_toArray, List.getElem?_cons_succ, List.getElem?_cons_zero] <;> exact rfl)
    case hs512 => kernel_rfl
    case hf512 => kernel_rfl
    case hr512 => kernel_rfl
    case hQ512 => exact fun _ _ _ h => h
    case hS512 => assumption
    case hy512 => (refine Or.inl ⟨by rfl, ?_⟩; intro w hSw; (try dsimp only at hSw); go_simp; try with_reducible rfl)
    simp only [Act.put, List.setIfInBounds_toArray, List.set_cons_zero, List.set_cons_succ]
    apply meetB (F := fun u r y => AnySt w y P A n c zs sb l B k d rs ∧ Bk y r 68 #[.string (u ++ ⟨#[97]⟩), .string (⟨#[97]⟩)] ∧ u.size ≤ 24)
    · intro hkey
      refine wpAnyH_ready (rs := [1, 3]) (by kernel_rfl) (by simp) ?_
      refine AllReadyH.cons rfl (fun K hK => ?_) (AllReadyH.cons rfl (fun K hK => ?_) AllReadyH.nil)
      · skip
        have lc : y0_.cell? ⟨sb, 1, none⟩ = some (.slice B k d) := by rw [hD0_.bkS.cell]; rfl
        have ls := hD0_.bkS.lt
        go_simp
        refine hK.out _ _ trivial (fun hHeld => ?_)
        clear hK K
        first | simp only [Act.put, List.setIfInBounds_toArray, List.set_cons_zero, List.set_cons_succ] | skip
        clear lc ls
        refine wpAnyH_ready (rs := [3]) (by kernel_rfl) (by simp) ?_
        refine AllReadyH.cons rfl (fun K hK => ?_) AllReadyH.nil
        go_simp
        with_reducible refine (hD0_.src.anyW).mono ?_
        rintro e y3_ ⟨u1_, hu2_, rfl, hs4_, hg5_⟩
        have hD6_ := hD0_.next hs4_ hg5_
        refine hK.out _ _ trivial (fun hHeld => ?_)
        clear hK K
        first | simp only [Act.put, List.setIfInBounds_toArray, List.set_cons_zero, List.set_cons_succ] | skip
        have hzz : ¬ (9223372036854775807 < u1_.size + 1) := by omega
        refine wpAnyH_take (i := 4) (oi := ?oi543) (v := ?val543) ?hi543 ?hs543 ?hf543 ?hr543 ?hQ543 ?hy543 ?hS543 ?hrest543
        case hi543 => (simp only [List.getElem?_toArray, List.getElem?_cons_succ, List.getElem?_cons_zero] <;> exact rfl)
        case hs543 => kernel_rfl
        case hf543 => kernel_rfl
        case hr543 => kernel_rfl
        case hQ543 => exact fun _ _ _ h => h
        case hS543 => assumption
        case hy543 => (refine Or.inl ⟨by rfl, ?_⟩; intro w hSw; (try dsimp only at hSw); go_simp; try with_reducible rfl)
        simp only [Act.put, List.setIfInBounds_toArray, List.set_cons_zero, List.set_cons_succ]
        refine wpAnyH_take (i := 5) (oi := ?oi552) (v := ?val552) ?hi552 ?hs552 ?hf552 ?hr552 ?hQ552 ?hy552 ?hS552 ?hrest552
        case hi552 => (simp only [List.getElem?_toArray, List.getElem?_cons_succ, List.getElem?_cons_zero] <;> exact rfl)
        case hs552 => kernel_rfl
        case hf552 => kernel_rfl
        case hr552 => kernel_rfl
        case hQ552 => exact fun _ _ _ h => h
        case hS552 => assumption
        case hy552 => (refine Or.inl ⟨by rfl, ?_⟩; intro w hSw; (try dsimp only at hSw); go_simp; try with_reducible rfl)
        simp only [Act.put, List.setIfInBounds_toArray, List.set_cons_zero, List.set_cons_succ]
        clear hzz
        refine wpAnyH_ready (rs := [6]) (by kernel_rfl) (by simp) ?_
        refine AllReadyH.cons rfl (fun K hK => ?_) AllReadyH.nil
        go_simp
        refine hK.out _ _ trivial (fun hHeld => ?_)
        clear hK K
        first | simp only [Act.put, List.setIfInBounds_toArray, List.set_cons_zero, List.set_cons_succ] | skip
        have hD10_ := hD6_.below ((Below.refl _ _).alloc (Nat.le_refl _) (.cells #[.string (u1_ ++ ⟨#[97]⟩), .string (⟨#[97]⟩)] 68))
        have bk9_ := Bk.new y3_ 68 #[.string (u1_ ++ ⟨#[97]⟩), .string (⟨#[97]⟩)]
        obtain ⟨y7_, hy⟩ : ∃ z, z = World.alloc y3_ (.cells #[.string (u1_ ++ ⟨#[97]⟩), .string (⟨#[97]⟩)] 68) := ⟨_, rfl⟩
        obtain ⟨r8_, hb⟩ : ∃ z, z = (World.heap y3_).size := ⟨_, rfl⟩
        rw [← hy] at bk9_ hD10_
        rw [← hb] at bk9_
        rw [← hy, ← hb]
        clear hy hb
        exact hkey u1_ r8_ y7_ ⟨hD10_, bk9_, hu2_⟩
      · skip
        go_simp
        with_reducible refine (hD0_.src.anyW).mono ?_
        rintro e y13_ ⟨u11_, hu12_, rfl, hs14_, hg15_⟩
        have hD16_ := hD0_.next hs14_ hg15_
        refine hK.out _ _ trivial (fun hHeld => ?_)
        clear hK K
        first | simp only [Act.put, List.setIfInBounds_toArray, List.set_cons_zero, List.set_cons_succ] | skip
        have hzz : ¬ (9223372036854775807 < u11_.size + 1) := by omega
        refine wpAnyH_take (i := 4) (oi := ?oi586) (v := ?val586) ?hi586 ?hs586 ?hf586 ?hr586 ?hQ586 ?hy586 ?hS586 ?hrest586
        case hi586 => (simp only [List.getElem?_toArray, List.getElem?_cons_succ, List.getElem?_cons_zero] <;> exact rfl)
        case hs586 => kernel_rfl
        case hf586 => kernel_rfl
        case hr586 => kernel_rfl
        case hQ586 => exact fun _ _ _ h => h
        case hS586 => assumption
        case hy586 => (refine Or.inl ⟨by rfl, ?_⟩; intro w hSw; (try dsimp only at hSw); go_simp; try with_reducible rfl)
        simp only [Act.put, List.setIfInBounds_toArray, List.set_cons_zero, List.set_cons_succ]
        refine wpAnyH_take (i := 5) (oi := ?oi595) (v := ?val595) ?hi595 ?hs595 ?hf595 ?hr595 ?hQ595 ?hy595 ?hS595 ?hrest595
        case hi595 => (simp only [List.getElem?_toArray, List.getElem?_cons_succ, List.getElem?_cons_zero] <;> exact rfl)
        case hs595 => kernel_rfl
        case hf595 => kernel_rfl
        case hr595 => kernel_rfl
        case hQ595 => exact fun _ _ _ h => h
        case hS595 => assumption
        case hy595 => (refine Or.inl ⟨by rfl, ?_⟩; intro w hSw; (try dsimp only at hSw); go_simp; try with_reducible rfl)
        simp only [Act.put, List.setIfInBounds_toArray, List.set_cons_zero, List.set_cons_succ]
        clear hzz
        refine wpAnyH_ready (rs := [1, 6]) (by kernel_rfl) (by simp) ?_
        refine AllReadyH.cons rfl (fun K hK => ?_) (AllReadyH.cons rfl (fun K hK => ?_) AllReadyH.nil)
        · skip
          have lc : y13_.cell? ⟨sb, 1, none⟩ = some (.slice B k d) := by rw [hD16_.bkS.cell]; rfl
          have ls := hD16_.bkS.lt
          go_simp
          refine hK.out _ _ trivial (fun hHeld => ?_)
          clear hK K
          first | simp only [Act.put, List.setIfInBounds_toArray, List.set_cons_zero, List.set_cons_succ] | skip
          clear lc ls
          refine wpAnyH_ready (rs := [6]) (by kernel_rfl) (by simp) ?_
          refine AllReadyH.cons rfl (fun K hK => ?_) AllReadyH.nil
          go_simp
          refine hK.out _ _ trivial (fun hHeld => ?_)
          clear hK K
          first | simp only [Act.put, List.setIfInBounds_toArray, List.set_cons_zero, List.set_cons_succ] | skip
          have hD20_ := hD16_.below ((Below.refl _ _).alloc (Nat.le_refl _) (.cells #[.string (u11_ ++ ⟨#[97]⟩), .string (⟨#[97]⟩)] 68))
          have bk19_ := Bk.new y13_ 68 #[.string (u11_ ++ ⟨#[97]⟩), .string (⟨#[97]⟩)]
          obtain ⟨y17_, hy⟩ : ∃ z, z = World.alloc y13_ (.cells #[.string (u11_ ++ ⟨#[97]⟩), .string (⟨#[97]⟩)] 68) := ⟨_, rfl⟩
          obtain ⟨r18_, hb⟩ : ∃ z, z = (World.heap y13_).size := ⟨_, rfl⟩
          rw [← hy] at bk19_ hD20_
          rw [← hb] at bk19_
          rw [← hy, ← hb]
          clear hy hb
          exact hkey u11_ r18_ y17_ ⟨hD20_, bk19_, hu12_⟩
        · skip
          go_simp
          refine hK.out _ _ trivial (fun hHeld => ?_)
          clear hK K
          first | simp only [Act.put, List.setIfInBounds_toArray, List.set_cons_zero, List.set_cons_succ] | skip
          have hD24_ := hD16_.below ((Below.refl _ _).alloc (Nat.le_refl _) (.cells #[.string (u11_ ++ ⟨#[97]⟩), .string (⟨#[97]⟩)] 68))
          have bk23_ := Bk.new y13_ 68 #[.string (u11_ ++ ⟨#[97]⟩), .string (⟨#[97]⟩)]
          obtain ⟨y21_, hy⟩ : ∃ z, z = World.alloc y13_ (.cells #[.string (u11_ ++ ⟨#[97]⟩), .string (⟨#[97]⟩)] 68) := ⟨_, rfl⟩
          obtain ⟨r22_, hb⟩ : ∃ z, z = (World.heap y13_).size := ⟨_, rfl⟩
          rw [← hy] at bk23_ hD24_
          rw [← hb] at bk23_
          rw [← hy, ← hb]
          clear hy hb
          refine wpAnyH_ready (rs := [1]) (by kernel_rfl) (by simp) ?_
          refine AllReadyH.cons rfl (fun K hK => ?_) AllReadyH.nil
          have lc : y21_.cell? ⟨sb, 1, none⟩ = some (.slice B k d) := by rw [hD24_.bkS.cell]; rfl
          have ls := hD24_.bkS.lt
          go_simp
          refine hK.out _ _ trivial (fun hHeld => ?_)
          clear hK K
          first | simp only [Act.put, List.setIfInBounds_toArray, List.set_cons_zero, List.set_cons_succ] | skip
          clear lc ls
          exact hkey u11_ r22_ y21_ ⟨hD24_, bk23_, hu12_⟩
    intro u r y7 ⟨hD7, bk7, hu⟩
    have hz8 := hD7.bkR.lt
    refine wpAnyH_ready (rs := [7]) (by kernel_rfl) (by simp) ?_
    refine AllReadyH.cons rfl (fun K hK => ?_) AllReadyH.nil
    (refine step_append_own y7 rfl _ _ 23 rfl (w.heap.size + 1) 68 2 32 _ Tryz.underlying23 info_Rule rfl (by omega) (.slice B k d) k _ rfl hD7.own ⟨r, 0, none⟩ 1 1 [.string (u ++ ⟨#[97]⟩), .string (⟨#[97]⟩)] rfl rfl (news2 bk7) (one_cell_ruleP _ _) (by unfold maxLen; omega) (by omega) (by omega) ?_; intro B9 d9 w9 hO9 hG9)
    refine hK.out _ _ (trivial) (fun hHeld2 => ?_)
    clear hK K hHeld
    have hHeld := hHeld2
    clear hHeld2
    first | simp only [Act.put, List.setIfInBounds_toArray, List.set_cons_zero, List.set_cons_succ] | skip
    obtain ⟨hD9, hB9⟩ := hD7.push (Below.refl _ _) hO9 hG9
    clear hz8 hO9 hG9 bk7
    refine wpAnyH_take (i := 8) (oi := ?oi665) (v := ?val665) ?hi665 ?hs665 ?hf665 ?hr665 ?hQ665 ?hy665 ?hS665 ?hrest665
    case hi665 => (simp only [List.getElem?_toArray, List.getElem?_cons_succ, List.getElem?_cons_zero] <;> exact rfl)
    case hs665 => kernel_rfl
    case hf665 => kernel_rfl
    case hr665 => kernel_rfl
    case hQ665 => exact fun _ _ _ h => h
    case hS665 => assumption
    case hy665 => (refine Or.inl ⟨by rfl, ?_⟩; intro w hSw; (try dsimp only at hSw); go_simp; try with_reducible rfl)
    simp only [Act.put, List.setIfInBounds_toArray, List.set_cons_zero, List.set_cons_succ]
    have c9 : w9.cell? ⟨sb, 1, none⟩ = some (.slice B k d) := by rw [hB9.cell]; rfl
    have f9 := hB9.free 1
    have l9 := hB9.lt
    refine wpAnyH_ready (rs := [9]) (by kernel_rfl) (by simp) ?_
    refine AllReadyH.cons rfl (fun K hK => ?_) AllReadyH.nil
    (go_simp)
    refine hK.out _ _ (trivial) (fun hHeld2 => ?_)
    clear hK K hHeld
    have hHeld := hHeld2
    clear hHeld2
    first | simp only [Act.put, List.setIfInBounds_toArray, List.set_cons_zero, List.set_cons_succ] | skip
    clear c9 f9 l9 hB9
    refine wpAnyH_done (by kernel_rfl) ?_ _
    have hfp := fair_push (u := (u ++ ⟨#[97]⟩)) (v := ⟨#[97]⟩) Hfr.out.2 (by rw [ByteArray.size_append]; have : (⟨#[97]⟩ : ByteArray).size = 1 := rfl; omega) (by decide)
    obtain ⟨w10, hw10⟩ : ∃ z, z = (w9.setCell ⟨sb, 1, none⟩ (.slice B9 (k + 1) d9)) := ⟨_, rfl⟩
    rw [← hw10] at hD9
    rw [← hw10]
    clear hw10 hD7 hHeld
    have c0 : w10.cell? ⟨w.heap.size, 0, none⟩ = some (.int .i64 0) := by rw [hD9.bkR.cell]; rfl
    have c1 : w10.cell? ⟨w.heap.size, 1, none⟩ = some (.slice none 0 0) := by rw [hD9.bkR.cell]; rfl
    have f0 := hD9.bkR.free 0
    have f1 := hD9.bkR.free 1
    have lb := hD9.bkR.lt
    have s0 : w10.cell? ⟨sb, 0, none⟩ = some (.int .i64 l) := by rw [hD9.bkS.cell]; rfl
    have s1 : w10.cell? ⟨sb, 1, none⟩ = some (.slice B9 (k + 1) d9) := by rw [hD9.bkS.cell]; rfl
    have sf0 := hD9.bkS.free 0
    have sf1 := hD9.bkS.free 1
    have sl := hD9.bkS.lt
    have HD9 := Lib.hid hD9
    clear hD9
    have Hfp := Lib.hid hfp
    clear hfp
    have hlS := HD9.out.lS
    go_wp2_with fail
    have hW9 : Below w.heap.size w10 ((w10.setCell ⟨w.heap.size, 0, none⟩ (.int .i64 l)).setCell ⟨w.heap.size, 1, none⟩ (.slice B9 (k + 1) d9)) := ((Below.refl _ _).setCell (p := ⟨w.heap.size, 0, none⟩) (Nat.le_refl _) _).setCell (p := ⟨w.heap.size, 1, none⟩) (Nat.le_refl _) _
    have hne : (Value.slice B9 (k + 1) d9).ownBlock ≠ some w.heap.size := by
      intro e
      have := (HD9.out.own.lt _ e).1
      omega
    have hO9 := own_mono (own_far3 (own_far3 HD9.out.own (p := ⟨w.heap.size, 0, none⟩) hne (.int .i64 l)) (p := ⟨w.heap.size, 1, none⟩) hne (.slice B9 (k + 1) d9)) (b' := w.heap.size) (by omega)
    have hC9 := cur_low HD9.out.cur hW9 HD9.out.lP
    have hG9 := gb_up HD9.out.gb hW9
    have hBn := (HD9.out.bkR.put 0 (.int .i64 l)).put 1 (.slice B9 (k + 1) d9)
    have q0 := hBn.cell 0
    have q1 := hBn.cell 1
    refine bodyPost_ret (v := .agg #[.int .i64 l, .slice B9 (k + 1) d9]) (by simp [results, Tryz.results59, go_sem, q0, q1]) rfl ?_
    exact ⟨l, B9, (k + 1), d9, (rs ++ [((u ++ ⟨#[97]⟩), ⟨#[97]⟩)]), ⟨by omega, by omega⟩, ⟨by rw [List.length_append, ← Hk.out]; rfl, ⟨by rw [List.length_append, ← Hk.out]; simp; omega, Hfp.out⟩⟩, rfl, hO9, HD9.out.src0.next hC9 hG9, hG9⟩
  have y0 : ((x : Int) == 0) = false := by simp; omega
  have y1 : ((x : Int) == 1) = false := by simp; omega
  have y2 : ((x : Int) == 2) = false := by simp; omega
  clear x0 x1 x2
  have hlS := HD3.out.lS
  go_wp2_with fail
  have hW9 : Below w.heap.size w3 ((w3.setCell ⟨w.heap.size, 0, none⟩ (.int .i64 l)).setCell ⟨w.heap.size, 1, none⟩ (.slice B k d)) := ((Below.refl _ _).setCell (p := ⟨w.heap.size, 0, none⟩) (Nat.le_refl _) _).setCell (p := ⟨w.heap.size, 1, none⟩) (Nat.le_refl _) _
  have hne : (Value.slice B k d).ownBlock ≠ some w.heap.size := by
    intro e
    have := (HD3.out.own.lt _ e).1
    omega
  have hO9 := own_mono (own_far3 (own_far3 HD3.out.own (p := ⟨w.heap.size, 0, none⟩) hne (.int .i64 l)) (p := ⟨w.heap.size, 1, none⟩) hne (.slice B k d)) (b' := w.heap.size) (by omega)
  have hC9 := cur_low HD3.out.cur hW9 HD3.out.lP
  have hG9 := gb_up HD3.out.gb hW9
  have hBn := (HD3.out.bkR.put 0 (.int .i64 l)).put 1 (.slice B k d)
  have q0 := hBn.cell 0
  have q1 := hBn.cell 1
  refine bodyPost_ret (v := .agg #[.int .i64 l, .slice B k d]) (by simp [results, Tryz.results59, go_sem, q0, q1]) rfl ?_
  exact ⟨l, B, k, d, rs, ⟨by omega, by omega⟩, ⟨Hk.out, ⟨by have := Hfr.out.1; omega, Hfr.out.2⟩⟩, rfl, hO9, HD3.out.src0.next hC9 hG9, hG9⟩

end Go.Proofs.YteafeecndghapaaGreat
