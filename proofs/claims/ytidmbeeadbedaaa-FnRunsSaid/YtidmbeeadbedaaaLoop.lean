/- Walks over l08Find, l16Loop, RunLoop, LoopLength, GrowsOn of the reference and loop, RunLoop, LoopLength, GrowsOn of the program: both tell the same run, length and answer. -/
import Derived.Test.YtidmbeeadbedaaaRun
import Derived.Test.YtidmbeeadbedaaaMg8
import Derived.Deep.RegionLaw
import Derived.Maps.OwnSet
import Derived.Maps.Views
namespace Go.Proofs.Ytidmbeeadbedaaa
open Go.RowKit Go.Shelf

/-- The first place of a word in a list. -/
def fnd : List ByteArray → ByteArray → Option Nat
  | [], _ => none
  | x :: xs, s => if x = s then some 0 else (fnd xs s).map (· + 1)
def fndI (ws : List ByteArray) (s : ByteArray) : Int := match fnd ws s with
  | some i => i
  | none => -1
theorem fnd_miss {s : ByteArray} : ∀ {ws : List ByteArray}, (∀ j y, j < ws.length → ws[j]? = some y → y ≠ s) → fnd ws s = none
  | [], _ => rfl
  | x :: xs, hn => by
    have h0 : x ≠ s := hn 0 x (Nat.succ_pos _) rfl
    have hr : fnd xs s = none := fnd_miss (fun j y hj hy => hn (j + 1) y (by simpa using hj) (by simpa using hy))
    rw [fnd, if_neg h0, hr]; rfl
theorem fnd_lt {s : ByteArray} : ∀ {ws : List ByteArray} {i : Nat}, fnd ws s = some i → i < ws.length
  | [], _, h => by cases h
  | x :: xs, i, h => by
    rw [fnd] at h
    split at h
    · injection h with h; subst h; simp
    · cases hf : fnd xs s with
      | none => rw [hf] at h; cases h
      | some j =>
        rw [hf] at h
        injection h with h
        have := fnd_lt hf
        subst h
        simpa using this
theorem fnd_snoc (x s : ByteArray) : ∀ ws : List ByteArray, fnd (ws ++ [x]) s = match fnd ws s with
    | some i => some i
    | none => if x = s then some ws.length else none
  | [] => by
    rw [List.nil_append, fnd, fnd]
    split <;> simp_all [fnd]
  | y :: ws => by
    rw [List.cons_append, fnd, fnd, fnd_snoc x s ws]
    by_cases h : y = s
    · rw [if_pos h, if_pos h]
    · rw [if_neg h, if_neg h]
      cases fnd ws s with
      | some i => rfl
      | none =>
        by_cases hx : x = s
        · simp [hx]
        · simp [hx]

/-- The map holds each word of the list with its place. -/
def MapAt (D : DataW Unit) (ws : List ByteArray) : Prop := Maps.IsMap D ∧ ∀ s : ByteArray, Maps.has D (.string s.data.toList) = (fnd ws s).isSome ∧ ∀ i z, fnd ws s = some i → D.atKey (.string s.data.toList) z = .lit (.int .i64 (i : Int))
theorem key_ne {x s : ByteArray} (h : x ≠ s) : (Lit.string s.data.toList) ≠ Lit.string x.data.toList := fun e => by
  injection e with e
  apply h
  have e2 : s.data = x.data := Array.toList_inj.1 e
  cases x; cases s; simp_all
theorem MapAt.snoc {D : DataW Unit} {ws : List ByteArray} (h : MapAt D ws) {x : ByteArray} (hx : fnd ws x = none) : MapAt (D.put (.string x.data.toList) (.lit (.int .i64 (ws.length : Int)))) (ws ++ [x]) := by
  have hk : WideAt.IsKeyLit (Lit.string x.data.toList) := trivial
  refine ⟨?_, fun s => ?_⟩
  · obtain ⟨es, rfl⟩ := h.1
    exact ⟨_, rfl⟩
  by_cases hs : x = s
  · subst hs
    rw [fnd_snoc, hx, if_pos rfl]
    refine ⟨Maps.has_put_same h.1 hk _, fun i z hi => ?_⟩
    injection hi with hi
    subst hi
    exact Maps.atKey_put_same h.1 hk _ z
  · have hf : fnd (ws ++ [x]) s = fnd ws s := by
      rw [fnd_snoc]
      cases fnd ws s with
      | some i => rfl
      | none => simp [hs]
    rw [hf, Maps.has_put_other (key_ne hs)]
    refine ⟨(h.2 s).1, fun i z hi => ?_⟩
    rw [Maps.atKey_put_other (key_ne hs)]
    exact (h.2 s).2 i z hi
theorem MapAt.nil : MapAt (.map []) [] := ⟨⟨_, rfl⟩, fun s => ⟨rfl, fun i z hi => by cases hi⟩⟩

/-- k more steps at most, n made, ws the words so far; the words at the end and the run. -/
def lpGo (rs : List RuleT) : Nat → Nat → List ByteArray → ByteArray → List ByteArray × RunT
  | 0, n, ws, s => (ws, (s, n, 3))
  | k + 1, n, ws, s => match firstS rs s with
    | none => (ws, (s, n, 0))
    | some x => if applyOk rs s x then (if (fnd ws (applyS rs s x)).isSome then (ws, (applyS rs s x, (n : Int) + 1, 1)) else lpGo rs k (n + 1) (ws ++ [applyS rs s x]) (applyS rs s x)) else (ws, (s, n, 2))
theorem lpGo_none {rs : List RuleT} {k n : Nat} {ws : List ByteArray} {s : ByteArray} (hk : 0 < k) (h : firstS rs s = none) : lpGo rs k n ws s = (ws, (s, (n : Int), 0)) := by
  obtain ⟨k, rfl⟩ : ∃ k', k = k' + 1 := ⟨k - 1, by omega⟩
  rw [lpGo, h]
theorem lpGo_long {rs : List RuleT} {k n : Nat} {ws : List ByteArray} {s : ByteArray} {x : StepT} (hk : 0 < k) (h : firstS rs s = some x) (ho : applyOk rs s x = false) : lpGo rs k n ws s = (ws, (s, (n : Int), 2)) := by
  obtain ⟨k, rfl⟩ : ∃ k', k = k' + 1 := ⟨k - 1, by omega⟩
  rw [lpGo, h]; simp [ho]
theorem lpGo_hit {rs : List RuleT} {k n : Nat} {ws : List ByteArray} {s y : ByteArray} {x : StepT} (hk : 0 < k) (h : firstS rs s = some x) (ho : applyOk rs s x = true) (hy : y = applyS rs s x) {i : Nat} (hf : fnd ws y = some i) : lpGo rs k n ws s = (ws, (y, (n : Int) + 1, 1)) := by
  obtain ⟨k, rfl⟩ : ∃ k', k = k' + 1 := ⟨k - 1, by omega⟩
  subst hy
  rw [lpGo, h]; simp [ho, hf]
theorem lpGo_go {rs : List RuleT} {k n : Nat} {ws : List ByteArray} {s y : ByteArray} {x : StepT} (hk : 0 < k) (h : firstS rs s = some x) (ho : applyOk rs s x = true) (hy : y = applyS rs s x) (hf : fnd ws y = none) : lpGo rs k n ws s = lpGo rs (k - 1) (n + 1) (ws ++ [y]) y := by
  obtain ⟨k, rfl⟩ : ∃ k', k = k' + 1 := ⟨k - 1, by omega⟩
  subst hy
  rw [lpGo, h]; simp [ho, hf]
def lpAll (l : Int) (rs : List RuleT) (s : ByteArray) : List ByteArray × RunT := if runOk l rs s then lpGo rs 500 0 [s] s else ([], (⟨#[]⟩, 0, 4))
/-- The length of the loop that is told. -/
def lpN (p : List ByteArray × RunT) : Int := if p.2.2.2 = 1 then p.2.2.1 - fndI p.1 p.2.1 else 0
/-- RunLoop, LoopLength and GrowsOn, in plain words. -/
def lpRun (l : Int) (rs : List RuleT) (s : ByteArray) : RunT := (lpAll l rs s).2
def lpLen (l : Int) (rs : List RuleT) (s : ByteArray) : Int := lpN (lpAll l rs s)
def lpGrows (l : Int) (rs : List RuleT) (s : ByteArray) : Bool := (lpAll l rs s).2.2.2 == 2

theorem map_keep {H : Type} {P : Program} {k : TypeId} {R : Value → Option (DataW H × List MemPlace)} {w w' : World} {b n B : Nat} {D : DataW H} (h : w.ownsMap P k R b n D) (hb : Below B w w') (hB : b < B) : w'.ownsMap P k R b n D := by
  obtain ⟨es, clock, h1, r⟩ := h
  exact ⟨es, clock, (hb.block b hB).trans h1, r⟩

theorem key_str {x : ByteArray} (h : x.size ≤ 1048576) : keyOf Try.prog 9 (.string x) = some (.string x.data.toList) := WideMaps.keyOf_string_mk Try.underlying9 (by unfold maxLen; omega)

theorem zero_int (w : World) : (zeroValue 3).run Try.prog w = .ok (.int .i64 0) w := by kernel_rfl
set_option maxRecDepth 100000 in
set_option maxHeartbeats 2000000 in
theorem implLoop_any (l : Int) (A : Option Addr) (n c : Nat) (rs : List RuleT) (s : ByteArray) (w : World) (hr : Rd w A (cellsRule rs)) (hn : n = rs.length) (hb : n ≤ 1048576) (hz : ∀ x ∈ rs, x.1.size ≤ 1048576 ∧ x.2.size ≤ 1048576) (hs : s.size ≤ 1048576) :
    Calls Try.prog 101 #[.agg #[.int .i64 l, .slice A n c], .string s] w (Kept w (.tuple #[runV (lpGo rs 500 0 [s] s).2, .int .i64 (lpN (lpGo rs 500 0 [s] s))])) := by
  have hmm := @run_makeMap Try.prog
  have hW0 : Below w.heap.size w ((w.alloc (.cells #[.int .i64 l, .slice A n c] 25)).alloc (.cells #[.string ⟨#[]⟩, .int .i64 0, .int .i64 0] 67)) := ((Below.refl _ _).alloc (Nat.le_refl _) _).alloc (by simp) _
  have hS0 : Bk ((w.alloc (.cells #[.int .i64 l, .slice A n c] 25)).alloc (.cells #[.string ⟨#[]⟩, .int .i64 0, .int .i64 0] 67)) w.heap.size 25 #[.int .i64 l, .slice A n c] := (Bk.new w _ _).alloc _
  have hR0 : Bk ((w.alloc (.cells #[.int .i64 l, .slice A n c] 25)).alloc (.cells #[.string ⟨#[]⟩, .int .i64 0, .int .i64 0] 67)) (w.heap.size + 1) 67 #[.string ⟨#[]⟩, .int .i64 0, .int .i64 0] := (Bk.new (w.alloc (.cells #[.int .i64 l, .slice A n c] 25)) 67 #[.string ⟨#[]⟩, .int .i64 0, .int .i64 0]).cast (by simp)
  have hS1 := hS0.alloc (.map #[] 0)
  have hR1 := hR0.alloc (.map #[] 0)
  have hW1 := hW0.alloc hW0.size (.map #[] 0)
  have hk0 := key_str hs
  have hm0 := World.ownsMap_made (H := Unit) ((w.alloc (.cells #[.int .i64 l, .slice A n c] 25)).alloc (.cells #[.string ⟨#[]⟩, .int .i64 0, .int .i64 0] 67)) Try.prog 9 (plainElem (H := Unit) Try.prog 3)
  have hsz0 : ((w.alloc (.cells #[.int .i64 l, .slice A n c] 25)).alloc (.cells #[.string ⟨#[]⟩, .int .i64 0, .int .i64 0] 67)).heap.size = w.heap.size + 2 := by simp
  rw [hsz0] at hm0
  obtain ⟨w2, hrun2, hown2, hgrow2⟩ := hm0.update (Maps.string_keyed Try.underlying9) Try.underlying182 (by unfold maxLen; omega) hk0 (plainElem_int (a := 0) Try.underlying3 (by decide))
  have hS2 := hS1.grown hgrow2 (by simp)
  have hR2 := hR1.grown hgrow2 (by simp)
  have hW2 := hW1.grown hgrow2 hW1.size (fun j hj => by cases hj; omega)
  have hM2 : MapAt ((DataW.map []).put (.string s.data.toList) (.lit (.int .i64 0))) [s] := MapAt.nil.snoc (ws := []) (x := s) rfl
  clear hS0 hR0 hW0 hS1 hR1 hW1 hm0 hgrow2
  have Hr := Lib.hid hr
  clear hr
  have Hn := Lib.hid hn
  clear hn
  have Hz := Lib.hid hz
  clear hz
  have HS2 := Lib.hid hS2
  clear hS2
  have HR2 := Lib.hid hR2
  clear hR2
  have HW2 := Lib.hid hW2
  clear hW2
  have Hown2 := Lib.hid hown2
  clear hown2
  have HM2 := Lib.hid hM2
  clear hM2
  go_enter Try.func101, Try.ntmps101
  go_wp2_with fail
  go_loopw [1, 15] (fun v i wr => ∃ (cur : ByteArray) (ws : List ByteArray) (k : Nat) (D : DataW Unit), v = .string cur ∧ i = .int .i64 k ∧ k ≤ 500 ∧ cur.size ≤ 1048576 ∧ Hid (ws.length = k + 1) ∧ Hid (lpGo rs 500 0 [s] s = lpGo rs (500 - k) k ws cur) ∧ Hid (MapAt D ws) ∧ wr.ownsMap Try.prog 9 (plainElem (H := Unit) Try.prog 3) (w.heap.size + 2) (k + 1) D ∧ Bk wr w.heap.size 25 #[.int .i64 l, .slice A n c] ∧ Bk wr (w.heap.size + 1) 67 #[.string ⟨#[]⟩, .int .i64 0, .int .i64 0] ∧ Below w.heap.size w wr) (fun _ i _ => 500 - (intOf i).toNat)
  case atStart => exact ⟨s, [s], 0, _, rfl, rfl, by omega, hs, Lib.hid rfl, Lib.hid rfl, HM2, Hown2.out, HS2.out, HR2.out, HW2.out⟩
  case round =>
    clear HS2 HR2 HW2 Hown2 HM2 hrun2 hmm hk0
    obtain ⟨cur, ws, k, D, rfl, rfl, hk, hcs, HL, HE, HM, hown, hS0, hR0, hW0⟩ := hrel
    have s0_0 : wr.cell? ⟨w.heap.size, 0, none⟩ = some (.int .i64 l) := by rw [hS0.cell]; rfl
    have s1_0 : wr.cell? ⟨w.heap.size, 1, none⟩ = some (.slice A n c) := by rw [hS0.cell]; rfl
    have sl_0 := hS0.lt
    by_cases hlt : k < 500
    · go_wp2_with fail
      refine (implfirstWord_any l A n c rs cur _ (Hr.out.keep hW0) Hn.out hb Hz.out hcs).mono ?_
      rintro e0 w3 ⟨rfl, b3⟩
      have hW3 := hW0.trans (b3.mono hW0.size)
      have hS3 := hS0.below b3 hS0.lt
      have hR3 := hR0.below b3 hR0.lt
      have ho3 := map_keep hown b3 hown.lt
      clear b3 hS0 hR0 hW0 hown s0_0 s1_0 sl_0
      have r0 : w3.cell? ⟨w.heap.size + 1, 0, none⟩ = some (.string ⟨#[]⟩) := by rw [hR3.cell]; rfl
      have f0 := hR3.free 0
      have r1 : w3.cell? ⟨w.heap.size + 1, 1, none⟩ = some (.int .i64 0) := by rw [hR3.cell]; rfl
      have f1 := hR3.free 1
      have r2 : w3.cell? ⟨w.heap.size + 1, 2, none⟩ = some (.int .i64 0) := by rw [hR3.cell]; rfl
      have f2 := hR3.free 2
      have rl := hR3.lt
      obtain ⟨f, hf⟩ : ∃ f, f = firstS rs cur := ⟨_, rfl⟩
      rw [← hf]
      cases f with
      | none =>
        have hE2 : lpGo rs 500 0 [s] s = (ws, (cur, (k : Int), 0)) := by rw [HE.out, lpGo_none (by omega) hf.symm]
        have g1 : nwS rs cur none = ⟨#[]⟩ := rfl
        have g2 : nwC rs cur none = 0 := rfl
        rw [g1, g2]
        have Hf := Lib.hid hf
        clear hf
        have HE2 := Lib.hid hE2
        clear hE2
        have G1 := Lib.hid g1
        clear g1
        have G2 := Lib.hid g2
        clear g2
        go_wp2_with fail
        have hBn := ((hR3.put 0 (.string cur)).put 1 (.int .i64 (k : Int))).put 2 (.int .i64 0)
        have q0 := hBn.cell 0
        have q1 := hBn.cell 1
        have q2 := hBn.cell 2
        have hW9 := ((hW3.setCell (p := ⟨w.heap.size + 1, 0, none⟩) (by dsimp only; omega) (.string cur)).setCell (p := ⟨w.heap.size + 1, 1, none⟩) (by dsimp only; omega) (.int .i64 (k : Int))).setCell (p := ⟨w.heap.size + 1, 2, none⟩) (by dsimp only; omega) (.int .i64 0)
        refine bodyPost_ret (v := .tuple #[.agg #[.string cur, .int .i64 (k : Int), .int .i64 0], .int .i64 0]) (by simp [results, Try.results101, go_sem, q0, q1, q2]) rfl ?_
        rw [HE2.out]
        exact ⟨rfl, hW9⟩
      | some x =>
        have hmem := firstS_mem hf.symm
        have hsz := apply_size hmem
        obtain ⟨nx, hnx⟩ : ∃ nx, nx = applyS rs cur x := ⟨_, rfl⟩
        obtain ⟨no, hno⟩ : ∃ no, no = applyOk rs cur x := ⟨_, rfl⟩
        have g1 : nwS rs cur (some x) = if no then nx else ⟨#[]⟩ := by rw [nwS, ← hno, ← hnx]
        have g2 : nwC rs cur (some x) = if no then 3 else 2 := by rw [nwC, ← hno]
        rw [← hnx] at hsz
        clear hmem
        cases no
        · have hE2 : lpGo rs 500 0 [s] s = (ws, (cur, (k : Int), 2)) := by rw [HE.out, lpGo_long (by omega) hf.symm hno.symm]
          rw [g1, g2, if_neg (by simp), if_neg (by simp)]
          clear g1 g2
          have Hf := Lib.hid hf
          clear hf
          have HE2 := Lib.hid hE2
          clear hE2
          have Hnx := Lib.hid hnx
          clear hnx
          have Hno := Lib.hid hno
          clear hno
          go_wp2_with fail
          have hBn := ((hR3.put 0 (.string cur)).put 1 (.int .i64 (k : Int))).put 2 (.int .i64 2)
          have q0 := hBn.cell 0
          have q1 := hBn.cell 1
          have q2 := hBn.cell 2
          have hW9 := ((hW3.setCell (p := ⟨w.heap.size + 1, 0, none⟩) (by dsimp only; omega) (.string cur)).setCell (p := ⟨w.heap.size + 1, 1, none⟩) (by dsimp only; omega) (.int .i64 (k : Int))).setCell (p := ⟨w.heap.size + 1, 2, none⟩) (by dsimp only; omega) (.int .i64 2)
          refine bodyPost_ret (v := .tuple #[.agg #[.string cur, .int .i64 (k : Int), .int .i64 2], .int .i64 0]) (by simp [results, Try.results101, go_sem, q0, q1, q2]) rfl ?_
          rw [HE2.out]
          exact ⟨rfl, hW9⟩
        · rw [g1, g2, if_pos rfl, if_pos rfl]
          clear g1 g2
          have hkey := key_str (x := nx) (by omega)
          obtain ⟨fo, hfo⟩ : ∃ fo, fo = fnd ws nx := ⟨_, rfl⟩
          obtain ⟨v0, ps, hlook, hv0⟩ := ho3.look_ok (Maps.string_keyed Try.underlying9) Try.underlying182 (zero_int _) (plainElem_int (a := 0) Try.underlying3 (by decide)) hkey
          obtain ⟨i1, rfl, hi1, hwi⟩ := plainElem_int_inv Try.underlying3 hv0
          rw [(HM.out.2 nx).1, ← hfo] at hlook
          cases fo with
          | some i0 =>
            have hE2 : lpGo rs 500 0 [s] s = (ws, (nx, (k : Int) + 1, 1)) := by rw [HE.out, lpGo_hit (by omega) hf.symm hno.symm hnx hfo.symm]
            have e5 : fndI ws nx = (i0 : Int) := by simp [fndI, ← hfo]
            have e6 : i1 = (i0 : Int) := by
              have h7 := congrArg Prod.fst hi1
              dsimp only at h7
              rw [(HM.out.2 nx).2 i0 _ hfo.symm] at h7
              injection h7 with h7
              injection h7 with _ h7
              exact h7.symm
            have hi0 : i0 < k + 1 := by rw [← HL.out]; exact fnd_lt hfo.symm
            subst e6
            have hlook' : (Instr.lookup 182 (.map (some (w.heap.size + 2))) (.string nx) true).run Try.prog w3 = .ok (.tuple #[.int .i64 (i0 : Int), .bool true]) w3 := hlook
            clear hlook hi1 hv0 hwi
            have Hf := Lib.hid hf
            clear hf
            have HE2 := Lib.hid hE2
            clear hE2
            have Hnx := Lib.hid hnx
            clear hnx
            have Hno := Lib.hid hno
            clear hno
            have Hfo := Lib.hid hfo
            clear hfo
            have E5 := Lib.hid e5
            clear e5
            go_wp2_with fail
            have hBn := ((hR3.put 0 (.string nx)).put 1 (.int .i64 ((k : Int) + 1))).put 2 (.int .i64 1)
            have q0 := hBn.cell 0
            have q1 := hBn.cell 1
            have q2 := hBn.cell 2
            have hW9 := ((hW3.setCell (p := ⟨w.heap.size + 1, 0, none⟩) (by dsimp only; omega) (.string nx)).setCell (p := ⟨w.heap.size + 1, 1, none⟩) (by dsimp only; omega) (.int .i64 ((k : Int) + 1))).setCell (p := ⟨w.heap.size + 1, 2, none⟩) (by dsimp only; omega) (.int .i64 1)
            refine bodyPost_ret (v := .tuple #[.agg #[.string nx, .int .i64 ((k : Int) + 1), .int .i64 1], .int .i64 ((k : Int) + 1 - (i0 : Int))]) (by simp [results, Try.results101, go_sem, q0, q1, q2]) rfl ?_
            rw [HE2.out]
            exact ⟨by simp [runV, lpN, E5.out], hW9⟩
          | none =>
            have hE2 : lpGo rs 500 0 [s] s = lpGo rs (500 - (k + 1)) (k + 1) (ws ++ [nx]) nx := by rw [HE.out, lpGo_go (by omega) hf.symm hno.symm hnx hfo.symm]; rfl
            have hL2 : (ws ++ [nx]).length = k + 1 + 1 := by rw [List.length_append, HL.out]; rfl
            have hlook' : (Instr.lookup 182 (.map (some (w.heap.size + 2))) (.string nx) true).run Try.prog w3 = .ok (.tuple #[.int .i64 i1, .bool false]) w3 := hlook
            obtain ⟨w5, hrun5, hown5, hgrow5⟩ := ho3.update (Maps.string_keyed Try.underlying9) Try.underlying182 (by unfold maxLen; omega) hkey (plainElem_int (a := (k : Int) + 1) Try.underlying3 (WalkArith.wf_i64 (by omega)))
            have hS5 := hS3.grown hgrow5 (by simp)
            have hR5 := hR3.grown hgrow5 (by simp)
            have hW5 := hW3.grown hgrow5 hW3.size (fun j hj => by cases hj; omega)
            have hM5 := HM.out.snoc hfo.symm
            rw [show ((ws.length : Nat) : Int) = (k : Int) + 1 by rw [HL.out]; rfl] at hM5
            clear hlook hi1 hv0 hwi hgrow5 ho3
            have Hf := Lib.hid hf
            clear hf
            have HE2 := Lib.hid hE2
            clear hE2
            have Hnx := Lib.hid hnx
            clear hnx
            have Hno := Lib.hid hno
            clear hno
            have Hfo := Lib.hid hfo
            clear hfo
            have HL2 := Lib.hid hL2
            clear hL2
            have HM5 := Lib.hid hM5
            clear hM5
            have HS5 := Lib.hid hS5
            clear hS5
            have HR5 := Lib.hid hR5
            clear hR5
            have HW5 := Lib.hid hW5
            clear hW5
            have Hown5 := Lib.hid hown5
            clear hown5
            clear r0 r1 r2 f0 f1 f2 rl hS3 hR3 hW3
            go_wp2_with fail
            go_roundw
            case rel => exact ⟨nx, ws ++ [nx], k + 1, _, rfl, by go_num, by omega, by omega, HL2, HE2, HM5, Hown5.out, HS5.out, HR5.out, HW5.out⟩
            case measure => simp [intOf] <;> omega
    · have : k = 500 := by omega
      subst this
      have hE2 : lpGo rs 500 0 [s] s = (ws, (cur, (500 : Int), 3)) := by rw [HE.out]; rfl
      have r0 : wr.cell? ⟨w.heap.size + 1, 0, none⟩ = some (.string ⟨#[]⟩) := by rw [hR0.cell]; rfl
      have f0 := hR0.free 0
      have r1 : wr.cell? ⟨w.heap.size + 1, 1, none⟩ = some (.int .i64 0) := by rw [hR0.cell]; rfl
      have f1 := hR0.free 1
      have r2 : wr.cell? ⟨w.heap.size + 1, 2, none⟩ = some (.int .i64 0) := by rw [hR0.cell]; rfl
      have f2 := hR0.free 2
      have rl := hR0.lt
      have HE2 := Lib.hid hE2
      clear hE2
      go_wp2_with fail
      have hBn := ((hR0.put 0 (.string cur)).put 1 (.int .i64 500)).put 2 (.int .i64 3)
      have q0 := hBn.cell 0
      have q1 := hBn.cell 1
      have q2 := hBn.cell 2
      have hW9 := ((hW0.setCell (p := ⟨w.heap.size + 1, 0, none⟩) (by dsimp only; omega) (.string cur)).setCell (p := ⟨w.heap.size + 1, 1, none⟩) (by dsimp only; omega) (.int .i64 500)).setCell (p := ⟨w.heap.size + 1, 2, none⟩) (by dsimp only; omega) (.int .i64 3)
      refine bodyPost_ret (v := .tuple #[.agg #[.string cur, .int .i64 500, .int .i64 3], .int .i64 0]) (by simp [results, Try.results101, go_sem, q0, q1, q2]) rfl ?_
      rw [HE2.out]
      exact ⟨rfl, hW9⟩



set_option maxRecDepth 100000 in
set_option maxHeartbeats 2000000 in
theorem implRunLoop_any (l : Int) (A : Option Addr) (n c : Nat) (rs : List RuleT) (s : ByteArray) (w : World) (hr : Rd w A (cellsRule rs)) (hn : n = rs.length) (hb : n ≤ 1048576) (hz : ∀ x ∈ rs, x.1.size ≤ 1048576 ∧ x.2.size ≤ 1048576) (hs : s.size ≤ 1048576) :
    Calls Try.prog 41 #[.agg #[.int .i64 l, .slice A n c], .string s] w (Kept w (runV (lpRun l rs s))) := by
  have hW0 : Below w.heap.size w ((w.alloc (.cells #[.int .i64 l, .slice A n c] 25)).alloc (.cells #[.string ⟨#[]⟩, .int .i64 0, .int .i64 0] 67)) := ((Below.refl _ _).alloc (Nat.le_refl _) _).alloc (by simp) _
  have hS0 : Bk ((w.alloc (.cells #[.int .i64 l, .slice A n c] 25)).alloc (.cells #[.string ⟨#[]⟩, .int .i64 0, .int .i64 0] 67)) w.heap.size 25 #[.int .i64 l, .slice A n c] := (Bk.new w _ _).alloc _
  have hR0 : Bk ((w.alloc (.cells #[.int .i64 l, .slice A n c] 25)).alloc (.cells #[.string ⟨#[]⟩, .int .i64 0, .int .i64 0] 67)) (w.heap.size + 1) 67 #[.string ⟨#[]⟩, .int .i64 0, .int .i64 0] := (Bk.new (w.alloc (.cells #[.int .i64 l, .slice A n c] 25)) 67 #[.string ⟨#[]⟩, .int .i64 0, .int .i64 0]).cast (by simp)
  have Hr := Lib.hid hr
  clear hr
  have Hn := Lib.hid hn
  clear hn
  have Hz := Lib.hid hz
  clear hz
  go_enter Try.func41, Try.ntmps41
  go_wp2_with fail
  refine (implIsRun_any l A n c rs s 0 _ (Hr.out.keep hW0) Hn.out hb Hz.out hs).mono ?_
  rintro e w1 ⟨rfl, b1⟩
  have hW1 := hW0.trans (b1.mono hW0.size)
  have hR1 := hR0.below b1 hR0.lt
  have hS1 := hS0.below b1 hS0.lt
  clear b1 hS0 hR0 hW0
  have s0_1 : w1.cell? ⟨w.heap.size, 0, none⟩ = some (.int .i64 l) := by rw [hS1.cell]; rfl
  have s1_1 : w1.cell? ⟨w.heap.size, 1, none⟩ = some (.slice A n c) := by rw [hS1.cell]; rfl
  have sl_1 := hS1.lt
  have r0 : World.cell? w1 ⟨w.heap.size + 1, 0, none⟩ = some (.string ⟨#[]⟩) := by rw [hR1.cell]; rfl
  have rf0 := hR1.free 0
  have r1 : World.cell? w1 ⟨w.heap.size + 1, 1, none⟩ = some (.int .i64 0) := by rw [hR1.cell]; rfl
  have rf1 := hR1.free 1
  have r2 : World.cell? w1 ⟨w.heap.size + 1, 2, none⟩ = some (.int .i64 0) := by rw [hR1.cell]; rfl
  have rf2 := hR1.free 2
  have rl := hR1.lt
  have hok : (runOk l rs s && inB 0 0 500) = runOk l rs s := by rw [show inB 0 0 500 = true by decide, Bool.and_true]
  rw [hok]
  clear hok
  obtain ⟨o1, hrr⟩ : ∃ r', r' = (runOk l rs s) := ⟨_, rfl⟩
  rw [← hrr]
  have H1 := Lib.hid hrr
  clear hrr
  cases o1
  · have e1 : runV (lpRun l rs s) = .agg #[.string ⟨#[]⟩, .int .i64 0, .int .i64 4] := by rw [lpRun, lpAll, ← H1.out]; rfl
    have E1 := Lib.hid e1
    clear e1
    go_wp2_with fail
    have hBn := ((hR1.put 0 (.string ⟨#[]⟩)).put 1 (.int .i64 0)).put 2 (.int .i64 4)
    have q0 := hBn.cell 0
    have q1 := hBn.cell 1
    have q2 := hBn.cell 2
    have hW9 := ((hW1.setCell (p := ⟨w.heap.size + 1, 0, none⟩) (by dsimp only; omega) (.string ⟨#[]⟩)).setCell (p := ⟨w.heap.size + 1, 1, none⟩) (by dsimp only; omega) (.int .i64 0)).setCell (p := ⟨w.heap.size + 1, 2, none⟩) (by dsimp only; omega) (.int .i64 4)
    refine bodyPost_ret (v := .agg #[.string ⟨#[]⟩, .int .i64 0, .int .i64 4]) (by simp [results, Try.results41, go_sem, q0, q1, q2]) rfl ?_
    exact ⟨by rw [E1.out], hW9⟩
  clear r0 r1 r2 rf0 rf1 rf2 rl
  go_wp2_with fail
  refine (implLoop_any l A n c rs s _ (Hr.out.keep hW1) Hn.out hb Hz.out hs).mono ?_
  rintro e w2 ⟨rfl, b2⟩
  have hW2 := hW1.trans (b2.mono hW1.size)
  have hR2 := hR1.below b2 hR1.lt
  clear b2 hS1 hR1 hW1 s0_1 s1_1 sl_1
  have hgo : lpGo rs 500 0 [s] s = lpAll l rs s := by rw [lpAll, ← H1.out]; rfl
  rw [hgo]
  clear hgo
  obtain ⟨⟨ws, v0, v1, v2⟩, hv⟩ : ∃ v, v = lpAll l rs s := ⟨_, rfl⟩
  rw [← hv]
  have er : runV (ws, v0, v1, v2).2 = .agg #[.string v0, .int .i64 v1, .int .i64 v2] := rfl
  rw [er]
  clear er
  have e1 : runV (lpRun l rs s) = .agg #[.string v0, .int .i64 v1, .int .i64 v2] := by rw [lpRun, ← hv]; rfl
  have hR5 := hR2.alloc (.cells #[.string v0, .int .i64 v1, .int .i64 v2] 67)
  have hW5 := hW2.alloc hW2.size (.cells #[.string v0, .int .i64 v1, .int .i64 v2] 67)
  have r0 : World.cell? (World.alloc w2 (.cells #[.string v0, .int .i64 v1, .int .i64 v2] 67)) ⟨w.heap.size + 1, 0, none⟩ = some (.string ⟨#[]⟩) := by rw [hR5.cell]; rfl
  have rf0 := hR5.free 0
  have r1 : World.cell? (World.alloc w2 (.cells #[.string v0, .int .i64 v1, .int .i64 v2] 67)) ⟨w.heap.size + 1, 1, none⟩ = some (.int .i64 0) := by rw [hR5.cell]; rfl
  have rf1 := hR5.free 1
  have r2 : World.cell? (World.alloc w2 (.cells #[.string v0, .int .i64 v1, .int .i64 v2] 67)) ⟨w.heap.size + 1, 2, none⟩ = some (.int .i64 0) := by rw [hR5.cell]; rfl
  have rf2 := hR5.free 2
  have rl := hR5.lt
  have Hv := Lib.hid hv
  clear hv
  have E1 := Lib.hid e1
  clear e1
  have HR2 := Lib.hid hR2
  clear hR2
  have HW2 := Lib.hid hW2
  clear hW2
  go_wp2_with fail
  have hBn := ((hR5.put 0 (.string v0)).put 1 (.int .i64 v1)).put 2 (.int .i64 v2)
  have q0 := hBn.cell 0
  have q1 := hBn.cell 1
  have q2 := hBn.cell 2
  have hW9 := ((hW5.setCell (p := ⟨w.heap.size + 1, 0, none⟩) (by dsimp only; omega) (.string v0)).setCell (p := ⟨w.heap.size + 1, 1, none⟩) (by dsimp only; omega) (.int .i64 v1)).setCell (p := ⟨w.heap.size + 1, 2, none⟩) (by dsimp only; omega) (.int .i64 v2)
  refine bodyPost_ret (v := .agg #[.string v0, .int .i64 v1, .int .i64 v2]) (by simp [results, Try.results41, go_sem, q0, q1, q2]) rfl ?_
  exact ⟨by rw [E1.out], hW9⟩


set_option maxRecDepth 100000 in
set_option maxHeartbeats 2000000 in
theorem implLoopLength_any (l : Int) (A : Option Addr) (n c : Nat) (rs : List RuleT) (s : ByteArray) (w : World) (hr : Rd w A (cellsRule rs)) (hn : n = rs.length) (hb : n ≤ 1048576) (hz : ∀ x ∈ rs, x.1.size ≤ 1048576 ∧ x.2.size ≤ 1048576) (hs : s.size ≤ 1048576) :
    Calls Try.prog 42 #[.agg #[.int .i64 l, .slice A n c], .string s] w (Kept w (.int .i64 (lpLen l rs s))) := by
  have hW0 : Below w.heap.size w (w.alloc (.cells #[.int .i64 l, .slice A n c] 25)) := (Below.refl _ _).alloc (Nat.le_refl _) _
  have hS0 := Bk.new w 25 #[.int .i64 l, .slice A n c]
  have Hr := Lib.hid hr
  clear hr
  have Hn := Lib.hid hn
  clear hn
  have Hz := Lib.hid hz
  clear hz
  go_enter Try.func42, Try.ntmps42
  go_wp2_with fail
  with_reducible refine (implIsRun_any l A n c rs s 0 _ (Hr.out.keep hW0) Hn.out hb Hz.out hs).mono ?_
  rintro e w1 ⟨rfl, b1⟩
  have hW1 := hW0.trans (b1.mono hW0.size)
  have hS1 := hS0.below b1 hS0.lt
  have s0_1 : w1.cell? ⟨w.heap.size, 0, none⟩ = some (.int .i64 l) := by rw [hS1.cell]; rfl
  have s1_1 : w1.cell? ⟨w.heap.size, 1, none⟩ = some (.slice A n c) := by rw [hS1.cell]; rfl
  have sl_1 := hS1.lt
  clear b1
  have hok : (runOk l rs s && inB 0 0 500) = runOk l rs s := by rw [show inB 0 0 500 = true by decide, Bool.and_true]
  rw [hok]
  clear hok
  obtain ⟨o1, hrr⟩ : ∃ r', r' = (runOk l rs s) := ⟨_, rfl⟩
  rw [← hrr]
  have H1 := Lib.hid hrr
  clear hrr
  cases o1
  · have e1 : lpLen l rs s = 0 := by rw [lpLen, lpAll, ← H1.out]; rfl
    have E1 := Lib.hid e1
    clear e1
    go_wp2_with fail
    go_ret
    exact ⟨ret_int (by rw [E1.out]), hW1⟩
  go_wp2_with fail
  refine (implLoop_any l A n c rs s _ (Hr.out.keep hW1) Hn.out hb Hz.out hs).mono ?_
  rintro e w2 ⟨rfl, b2⟩
  have hW2 := hW1.trans (b2.mono hW1.size)
  clear b2 hS1 hW1 s0_1 s1_1 sl_1
  have hgo : lpGo rs 500 0 [s] s = lpAll l rs s := by rw [lpAll, ← H1.out]; rfl
  rw [hgo]
  have hle : lpN (lpAll l rs s) = lpLen l rs s := rfl
  rw [hle]
  clear hgo hle
  obtain ⟨k, hk⟩ : ∃ k, k = lpLen l rs s := ⟨_, rfl⟩
  rw [← hk]
  obtain ⟨⟨ws, v0, v1, v2⟩, hv⟩ : ∃ v, v = lpAll l rs s := ⟨_, rfl⟩
  rw [← hv]
  have er : runV (ws, v0, v1, v2).2 = .agg #[.string v0, .int .i64 v1, .int .i64 v2] := rfl
  rw [er]
  clear er
  have hW5 := hW2.alloc hW2.size (.cells #[.string v0, .int .i64 v1, .int .i64 v2] 67)
  have Hv := Lib.hid hv
  clear hv
  have Hk := Lib.hid hk
  clear hk
  have HW2 := Lib.hid hW2
  clear hW2
  go_wp2_with fail
  go_ret
  exact ⟨ret_int Hk.out, hW5⟩


set_option maxRecDepth 100000 in
set_option maxHeartbeats 2000000 in
theorem implGrowsOn_any (l : Int) (A : Option Addr) (n c : Nat) (rs : List RuleT) (s : ByteArray) (w : World) (hr : Rd w A (cellsRule rs)) (hn : n = rs.length) (hb : n ≤ 1048576) (hz : ∀ x ∈ rs, x.1.size ≤ 1048576 ∧ x.2.size ≤ 1048576) (hs : s.size ≤ 1048576) :
    Calls Try.prog 43 #[.agg #[.int .i64 l, .slice A n c], .string s] w (Kept w (.bool (lpGrows l rs s))) := by
  have hW0 : Below w.heap.size w (w.alloc (.cells #[.int .i64 l, .slice A n c] 25)) := (Below.refl _ _).alloc (Nat.le_refl _) _
  have hS0 := Bk.new w 25 #[.int .i64 l, .slice A n c]
  have Hr := Lib.hid hr
  clear hr
  have Hn := Lib.hid hn
  clear hn
  have Hz := Lib.hid hz
  clear hz
  go_enter Try.func43, Try.ntmps43
  go_wp2_with fail
  with_reducible refine (implRunLoop_any l A n c rs s _ (Hr.out.keep hW0) Hn.out hb Hz.out hs).mono ?_
  rintro e w1 ⟨rfl, b1⟩
  have hW1 := hW0.trans (b1.mono hW0.size)
  have hS1 := hS0.below b1 hS0.lt
  have s0_1 : w1.cell? ⟨w.heap.size, 0, none⟩ = some (.int .i64 l) := by rw [hS1.cell]; rfl
  have s1_1 : w1.cell? ⟨w.heap.size, 1, none⟩ = some (.slice A n c) := by rw [hS1.cell]; rfl
  have sl_1 := hS1.lt
  clear b1
  obtain ⟨⟨v0, v1, v2⟩, hv⟩ : ∃ v, v = lpRun l rs s := ⟨_, rfl⟩
  rw [← hv]
  have er : runV (v0, v1, v2) = .agg #[.string v0, .int .i64 v1, .int .i64 v2] := rfl
  rw [er]
  clear er
  have e1 : lpGrows l rs s = (v2 == 2) := by rw [show lpGrows l rs s = ((lpRun l rs s).2.2 == 2) from rfl, ← hv]
  have hfd : ∀ W : World, (Instr.field 67 (.agg #[.string v0, .int .i64 v1, .int .i64 v2]) 2).run Try.prog W = .ok (.int .i64 v2) W := fun W => by rfl
  have Hv := Lib.hid hv
  clear hv
  have E1 := Lib.hid e1
  clear e1
  go_wp2_with fail
  go_ret
  exact ⟨ret_bool (by rw [E1.out]), hW1⟩

end Go.Proofs.Ytidmbeeadbedaaa
