/- Walks over l08Find, l16Loop, RunLoop, LoopLength, GrowsOn of the reference and loop, RunLoop, LoopLength, GrowsOn of the program: both tell the same run, length and answer. -/
import Derived.Test.YtnlagiopmkjmlaaMg7
import Derived.Test.YtnlagiopmkjmlaaChain
import Derived.Deep.RegionLaw
import Derived.Maps.OwnSet
import Derived.Maps.Views
namespace Go.Proofs.Ytnlagiopmkjmlaa
open Go.RowKit Go.Shelf

/-- The first place of a word in a list. -/
def fnd : List ByteArray → ByteArray → Option Nat
  | [], _ => none
  | x :: xs, s => if x = s then some 0 else (fnd xs s).map (· + 1)
def fndI (ws : List ByteArray) (s : ByteArray) : Int := match fnd ws s with
  | some i => i
  | none => -1
theorem fnd_hit {s : ByteArray} : ∀ {ws : List ByteArray} {i : Nat}, i < ws.length → (∀ j y, j < i → ws[j]? = some y → y ≠ s) → ws[i]? = some s → fnd ws s = some i
  | [], _, h, _, _ => absurd h (Nat.not_lt_zero _)
  | x :: xs, 0, _, _, he => by
    have : x = s := by simpa using he
    rw [fnd, if_pos this]
  | x :: xs, i + 1, h, hn, he => by
    have h0 : x ≠ s := hn 0 x (Nat.succ_pos _) rfl
    have hr : fnd xs s = some i := fnd_hit (by simpa using h) (fun j y hj hy => hn (j + 1) y (by omega) (by simpa using hy)) (by simpa using he)
    rw [fnd, if_neg h0, hr]; rfl
theorem fnd_miss {s : ByteArray} : ∀ {ws : List ByteArray}, (∀ j y, j < ws.length → ws[j]? = some y → y ≠ s) → fnd ws s = none
  | [], _ => rfl
  | x :: xs, hn => by
    have h0 : x ≠ s := hn 0 x (Nat.succ_pos _) rfl
    have hr : fnd xs s = none := fnd_miss (fun j y hj hy => hn (j + 1) y (by simpa using hj) (by simpa using hy))
    rw [fnd, if_neg h0, hr]; rfl
theorem fnd_lt {s : ByteArray} : ∀ {ws : List ByteArray} {i : Nat}, fnd ws s = some i → i < ws.length
  | [], _, h => by cases h
  | x :: xs, i, h => by
    rw [fnd] at h
    split at h
    · injection h with h; subst h; simp
    · cases hf : fnd xs s with
      | none => rw [hf] at h; cases h
      | some j =>
        rw [hf] at h
        injection h with h
        have := fnd_lt hf
        subst h
        simpa using this
theorem fnd_snoc (x s : ByteArray) : ∀ ws : List ByteArray, fnd (ws ++ [x]) s = match fnd ws s with
    | some i => some i
    | none => if x = s then some ws.length else none
  | [] => by
    rw [List.nil_append, fnd, fnd]
    split <;> simp_all [fnd]
  | y :: ws => by
    rw [List.cons_append, fnd, fnd, fnd_snoc x s ws]
    by_cases h : y = s
    · rw [if_pos h, if_pos h]
    · rw [if_neg h, if_neg h]
      cases fnd ws s with
      | some i => rfl
      | none =>
        by_cases hx : x = s
        · simp [hx]
        · simp [hx]

theorem fndI_in (ws : List ByteArray) (s : ByteArray) : -1 ≤ fndI ws s ∧ fndI ws s ≤ (ws.length : Int) := by
  unfold fndI
  split
  · next i h =>
    have := fnd_lt h
    omega
  · omega

/-- The map holds each word of the list with its place. -/
def MapAt (D : DataW Unit) (ws : List ByteArray) : Prop := Maps.IsMap D ∧ ∀ s : ByteArray, Maps.has D (.string s.data.toList) = (fnd ws s).isSome ∧ ∀ i z, fnd ws s = some i → D.atKey (.string s.data.toList) z = .lit (.int .i64 (i : Int))
theorem key_ne {x s : ByteArray} (h : x ≠ s) : (Lit.string s.data.toList) ≠ Lit.string x.data.toList := fun e => by
  injection e with e
  apply h
  have e2 : s.data = x.data := Array.toList_inj.1 e
  cases x; cases s; simp_all
theorem MapAt.snoc {D : DataW Unit} {ws : List ByteArray} (h : MapAt D ws) {x : ByteArray} (hx : fnd ws x = none) : MapAt (D.put (.string x.data.toList) (.lit (.int .i64 (ws.length : Int)))) (ws ++ [x]) := by
  have hk : WideAt.IsKeyLit (Lit.string x.data.toList) := trivial
  refine ⟨?_, fun s => ?_⟩
  · obtain ⟨es, rfl⟩ := h.1
    exact ⟨_, rfl⟩
  by_cases hs : x = s
  · subst hs
    rw [fnd_snoc, hx, if_pos rfl]
    refine ⟨Maps.has_put_same h.1 hk _, fun i z hi => ?_⟩
    injection hi with hi
    subst hi
    exact Maps.atKey_put_same h.1 hk _ z
  · have hf : fnd (ws ++ [x]) s = fnd ws s := by
      rw [fnd_snoc]
      cases fnd ws s with
      | some i => rfl
      | none => simp [hs]
    rw [hf, Maps.has_put_other (key_ne hs)]
    refine ⟨(h.2 s).1, fun i z hi => ?_⟩
    rw [Maps.atKey_put_other (key_ne hs)]
    exact (h.2 s).2 i z hi
theorem MapAt.nil : MapAt (.map []) [] := ⟨⟨_, rfl⟩, fun s => ⟨rfl, fun i z hi => by cases hi⟩⟩

/-- k more steps at most, n made, ws the words so far; the words at the end and the run. -/
def lpGo (rs : List RuleT) : Nat → Nat → List ByteArray → ByteArray → List ByteArray × RunT
  | 0, n, ws, s => (ws, (s, n, 3))
  | k + 1, n, ws, s => match firstS rs s with
    | none => (ws, (s, n, 0))
    | some x => if applyOk rs s x then (if (fnd ws (applyS rs s x)).isSome then (ws, (applyS rs s x, (n : Int) + 1, 1)) else lpGo rs k (n + 1) (ws ++ [applyS rs s x]) (applyS rs s x)) else (ws, (s, n, 2))
theorem lpGo_none {rs : List RuleT} {k n : Nat} {ws : List ByteArray} {s : ByteArray} (hk : 0 < k) (h : firstS rs s = none) : lpGo rs k n ws s = (ws, (s, (n : Int), 0)) := by
  obtain ⟨k, rfl⟩ : ∃ k', k = k' + 1 := ⟨k - 1, by omega⟩
  rw [lpGo, h]
theorem lpGo_long {rs : List RuleT} {k n : Nat} {ws : List ByteArray} {s : ByteArray} {x : StepT} (hk : 0 < k) (h : firstS rs s = some x) (ho : applyOk rs s x = false) : lpGo rs k n ws s = (ws, (s, (n : Int), 2)) := by
  obtain ⟨k, rfl⟩ : ∃ k', k = k' + 1 := ⟨k - 1, by omega⟩
  rw [lpGo, h]; simp [ho]
theorem lpGo_hit {rs : List RuleT} {k n : Nat} {ws : List ByteArray} {s y : ByteArray} {x : StepT} (hk : 0 < k) (h : firstS rs s = some x) (ho : applyOk rs s x = true) (hy : y = applyS rs s x) {i : Nat} (hf : fnd ws y = some i) : lpGo rs k n ws s = (ws, (y, (n : Int) + 1, 1)) := by
  obtain ⟨k, rfl⟩ : ∃ k', k = k' + 1 := ⟨k - 1, by omega⟩
  subst hy
  rw [lpGo, h]; simp [ho, hf]
theorem lpGo_go {rs : List RuleT} {k n : Nat} {ws : List ByteArray} {s y : ByteArray} {x : StepT} (hk : 0 < k) (h : firstS rs s = some x) (ho : applyOk rs s x = true) (hy : y = applyS rs s x) (hf : fnd ws y = none) : lpGo rs k n ws s = lpGo rs (k - 1) (n + 1) (ws ++ [y]) y := by
  obtain ⟨k, rfl⟩ : ∃ k', k = k' + 1 := ⟨k - 1, by omega⟩
  subst hy
  rw [lpGo, h]; simp [ho, hf]
def lpAll (l : Int) (rs : List RuleT) (s : ByteArray) : List ByteArray × RunT := if runOk l rs s then lpGo rs 500 0 [s] s else ([], (⟨#[]⟩, 0, 4))
/-- The length of the loop that is told. -/
def lpN (p : List ByteArray × RunT) : Int := if p.2.2.2 = 1 then p.2.2.1 - fndI p.1 p.2.1 else 0
/-- RunLoop, LoopLength and GrowsOn, in plain words. -/
def lpRun (l : Int) (rs : List RuleT) (s : ByteArray) : RunT := (lpAll l rs s).2
def lpLen (l : Int) (rs : List RuleT) (s : ByteArray) : Int := lpN (lpAll l rs s)
def lpGrows (l : Int) (rs : List RuleT) (s : ByteArray) : Bool := (lpAll l rs s).2.2.2 == 2

/-- How many words and steps there are at the end. -/
theorem lpGo_out {rs : List RuleT} : ∀ (k n : Nat) (ws : List ByteArray) (s : ByteArray), n ≤ ws.length → ws.length ≤ n + 1 → (lpGo rs k n ws s).1.length ≤ n + k + 1 ∧ 0 ≤ (lpGo rs k n ws s).2.2.1 ∧ (lpGo rs k n ws s).2.2.1 ≤ n + k
  | 0, n, ws, s, h0, h => ⟨h, Int.natCast_nonneg n, by show (n : Int) ≤ _; omega⟩
  | k + 1, n, ws, s, h0, h => by
    rw [lpGo]
    split
    · exact ⟨by dsimp only; omega, by dsimp only; omega, by dsimp only; omega⟩
    · split
      · split
        · exact ⟨by dsimp only; omega, by dsimp only; omega, by dsimp only; omega⟩
        · have := lpGo_out (rs := rs) k (n + 1) (ws ++ [applyS rs s ‹_›]) (applyS rs s ‹_›) (by simp; omega) (by simp; omega)
          exact ⟨by omega, by omega, by omega⟩
      · exact ⟨by dsimp only; omega, by dsimp only; omega, by dsimp only; omega⟩
theorem lpAll_out (l : Int) (rs : List RuleT) (s : ByteArray) : (lpAll l rs s).1.length ≤ 501 ∧ 0 ≤ (lpAll l rs s).2.2.1 ∧ (lpAll l rs s).2.2.1 ≤ 500 := by
  unfold lpAll
  split
  · have := lpGo_out (rs := rs) 500 0 [s] s (by simp) (by simp)
    exact ⟨by omega, by omega, by omega⟩
  · exact ⟨by simp, by simp, by simp⟩
/-- What a call leaves that hands back words in memory of its own, and a run. -/
def MadeSlR (w : World) (p : List ByteArray × RunT) (e : Ending) (w' : World) : Prop :=
  ∃ A c, e = .returned (.tuple #[.slice A p.1.length c, runV p.2]) ∧ w'.ownsRow w.heap.size 9 1 (.slice A p.1.length c) p.1.length (strs p.1) ∧ Below w.heap.size w w'

theorem madeR {w w' : World} {ws : List ByteArray} {r : RunT} {k : Nat} {v : Value} {C : Option Addr} {e : Nat} (hl : ws.length = k) (hv : v = runV r) (ho : w'.ownsRow w.heap.size 9 1 (.slice C k e) k (strs ws)) (hb : Below w.heap.size w w') : MadeSlR w (ws, r) (.returned (.tuple #[.slice C k e, v])) w' := by
  subst hl hv
  exact ⟨C, e, rfl, ho, hb⟩

set_option maxRecDepth 100000 in
set_option maxHeartbeats 1000000 in
theorem specFind_any (A : Option Addr) (n c : Nat) (ws : List ByteArray) (s : ByteArray) (w : World) (hr : Rd w A (strs ws)) (hn : n = ws.length) (hb : n ≤ 9223372036854775806) :
    Calls Try.prog 58 #[.slice A n c, .string s] w (fun e w' => e = .returned (.int .i64 (fndI ws s)) ∧ w' = w) := by
  have Hr := Lib.hid hr
  clear hr
  have Hn := Lib.hid hn
  clear hn
  go_enter Try.func58, Try.ntmps58
  go_wp2_with fail
  go_loopw [9] (fun i wr => ∃ (j : Nat), j ≤ n ∧ i = .int .i64 j ∧ Hid (∀ k y, k < j → ws[k]? = some y → y ≠ s) ∧ wr = w) (fun i _ => n - (intOf i).toNat)
  case atStart => exact ⟨0, Nat.zero_le _, rfl, Lib.hid (fun k y hk => absurd hk (Nat.not_lt_zero _)), rfl⟩
  case round =>
    obtain ⟨j, hj, rfl, HN, rfl⟩ := hrel
    by_cases hlt : j < n
    · have hj2 : j < ws.length := by rw [← Hn.out]; exact hlt
      obtain ⟨b, o, hA, hbl, p0⟩ := rd_Str Hr.out hj2
      obtain ⟨y, hy⟩ : ∃ y, y = ws[j] := ⟨_, rfl⟩
      have hy2 : ws[j]? = some y := by rw [hy]; exact List.getElem?_eq_getElem hj2
      rw [← hy] at p0
      subst hA
      have hq := str_eq y s
      by_cases hys : y = s
      · have e1 : fndI ws s = (j : Int) := by have h5 := fnd_hit hj2 HN.out (by rw [hy2, hys]); simp [fndI, h5]
        rw [decide_eq_true hys] at hq
        clear hy hj2
        have Hy2 := Lib.hid hy2
        clear hy2
        have E1 := Lib.hid e1
        clear e1
        have Hys := Lib.hid hys
        clear hys
        go_wp2_with fail
        go_ret
        exact ⟨ret_int (by rw [E1.out]), rfl⟩
      · have hN2 : ∀ k z, k < j + 1 → ws[k]? = some z → z ≠ s := fun k z hk hz => by
          by_cases e : k = j
          · subst e
            rw [hy2] at hz
            injection hz with hz
            rw [← hz]; exact hys
          · exact HN.out k z (by omega) hz
        rw [decide_eq_false hys] at hq
        clear hy hj2
        have Hy2 := Lib.hid hy2
        clear hy2
        have HN2 := Lib.hid hN2
        clear hN2
        have Hys := Lib.hid hys
        clear hys
        go_wp2_with fail
        go_roundw
        case rel => exact ⟨j + 1, by omega, by go_num, HN2, by first | rfl | trivial⟩
        case measure => simp [intOf] <;> omega
    · have : j = n := by omega
      subst this
      have e1 : fndI ws s = -1 := by have h5 := fnd_miss (fun k y hk => HN.out k y (by rw [Hn.out]; exact hk)); simp [fndI, h5]
      have E1 := Lib.hid e1
      clear e1
      go_wp2_with fail
      go_ret
      exact ⟨ret_int (by rw [E1.out]), rfl⟩


theorem map_keep {H : Type} {P : Program} {k : TypeId} {R : Value → Option (DataW H × List MemPlace)} {w w' : World} {b n B : Nat} {D : DataW H} (h : w.ownsMap P k R b n D) (hb : Below B w w') (hB : b < B) : w'.ownsMap P k R b n D := by
  obtain ⟨es, clock, h1, r⟩ := h
  exact ⟨es, clock, (hb.block b hB).trans h1, r⟩

theorem key_str {x : ByteArray} (h : x.size ≤ 1048576) : keyOf Try.prog 9 (.string x) = some (.string x.data.toList) := WideMaps.keyOf_string_mk Try.underlying9 (by unfold maxLen; omega)









end Go.Proofs.Ytnlagiopmkjmlaa
