/- Merged texts: a claim has a limit of files. -/
import Derived.Test.YtidmbeeadbedaaaBase
import Derived.Test.YtidmbeeadbedaaaMg1

/- append of one element, as a law of the walk; what appends and results of two need. -/
namespace Go.Proofs.Ytidmbeeadbedaaa
open Go.RowKit Go.Shelf

theorem one_cell1 (v : Int) : ∀ u ∈ (#[Value.int .i64 v] : Array Value).toList, u.oneCell' = true := by intro u hu; simp at hu; subst hu; rfl

/-- 'append(v, x)' of one element that lies in the newest block, onto a slice of the call's own. -/
theorem wpList_app1 {P : Program} {ops : Array Oper} {rest : List Oper} {o : Oper} {a : Act} {Q : Exit → Act → World → Prop} (w w0 : World) (hgd : o.guard = none) (s x : Operand) (t : TypeId)
    (ho : o.op = .call { callee := .builtin .append, args := #[s, x], argTypes := #[t, t] }) (base e size bytes : Nat) (z : Value) (ht : P.underlying t = some (.slice e))
    (hinfo : (P.info? e).map (fun i => (i.zero, i.size, i.bytes)) = some (some z, size, bytes)) (hzs : z.cells.size = size) (hsz : 0 < size) (v : Value) (n : Nat) (xs : List Value) (cs : Array Value)
    (hw : w = w0.alloc (.cells cs e)) (hs : a.eval s = v) (hx : a.eval x = .slice (some ⟨w0.heap.size, 0, none⟩) 1 1) (hown : w0.ownsRow base e size v n xs) (hcs : cs.size = size) (h1 : ∀ u ∈ cs.toList, u.oneCell' = true)
    (hn : (n + 1) * bytes ≤ 140737488355328) (hm : n + 1 ≤ maxLen) (hbase : base ≤ w0.heap.size)
    (h : ∀ A c w', w'.ownsRow base e size (.slice A (n + 1) c) (n + 1) (xs ++ cs.toList) → Below base w0 w' → wpList P ops Q rest (a.put o.dst (.slice A (n + 1) c)) w') :
    wpList P ops Q (o :: rest) a w := by
  subst hw
  obtain ⟨i0, hi, hz0, hz1, hz2⟩ := info_parts hinfo
  refine wpList_append_own _ hgd s x t ho base e i0 z size bytes ht hi hz0 hz1 hz2 hzs hsz v n xs hs (hown.alloc _) ⟨w0.heap.size, 0, none⟩ 1 1 cs.toList hx (by simpa using hcs) ?_ h1 hm hn (by simp; omega) ?_
  · intro j u hu
    have e' : (⟨w0.heap.size, 0, none⟩ : Addr).add j = ⟨w0.heap.size, j, none⟩ := by unfold Addr.add; split <;> simp_all
    rw [e', (Bk.new w0 e cs).cell j]
    simpa using hu
  · intro v' w' hown' hgrow _
    have hform : ∃ A c, v' = .slice A (n + 1) c := by
      rcases hown'.2 with ⟨_, h0⟩ | ⟨g, cap, cur, hv, _⟩
      · omega
      · exact ⟨_, _, hv⟩
    obtain ⟨A, c, rfl⟩ := hform
    refine h A c w' hown' ?_
    have hb0 : Below base w0 (w0.alloc (.cells cs e)) := (Below.refl _ _).alloc hbase _
    exact hb0.grown hgrow (by simp; omega) fun k hk => ((hown.alloc (.cells cs e)).lt k hk).1

/-- A slice of the call's own and a bool. -/
def MadeSlB (w : World) (t : TypeId) (m n : Nat) (xs : List Value) (b : Bool) (e : Ending) (w' : World) : Prop :=
  ∃ A c, e = .returned (.tuple #[.slice A n c, .bool b]) ∧ w'.ownsRow w.heap.size t m (.slice A n c) n xs ∧ Below w.heap.size w w'

theorem take_next {α : Type} {xs : List α} {j : Nat} {x : α} (h : xs[j]? = some x) : xs.take (j + 1) = xs.take j ++ [x] := by
  rw [List.take_add_one, h]; rfl
theorem ints_snoc (xs : List Int) (x : Int) : ints (xs ++ [x]) = ints xs ++ [.int .i64 x] := by simp [ints]
/-- What has been appended to the first j numbers. -/
theorem ints_next {w : World} {base : Nat} {t : TypeId} {v : Value} {xs : List Int} {j : Nat} {x : Int} (h : w.ownsRow base t 1 v (j + 1) (ints (xs.take j) ++ (#[Value.int .i64 x] : Array Value).toList)) (hx : xs[j]? = some x) :
    w.ownsRow base t 1 v (j + 1) (ints (xs.take (j + 1))) := by
  rw [take_next hx, ints_snoc]
  exact h

/-- What is left of a size after t more. -/
def szLeft (left : Int) (t : Nat) : Int := if left - t < 0 then -1 else left - t
/-- A slice of int that came in. -/
def OpenSlInts (w : World) (A : Option Addr) (n : Nat) (zs : List Int) : Prop := Rd w A (ints zs) ∧ n = zs.length ∧ n ≤ maxLen ∧ ∀ z ∈ zs, (Lit.int .i64 z).wf = true

theorem mem_sum {α : Type} (f : α → Nat) (xs : List α) (x : α) (h : x ∈ xs) : f x ≤ (xs.map f).sum := by
  induction xs with
  | nil => cases h
  | cons y t ih =>
    rw [List.map_cons, List.sum_cons]
    rcases List.mem_cons.1 h with e | e
    · subst e; omega
    · have := ih e; omega
theorem Rd.drew {w : World} {A : Option Addr} {xs : List Value} (h : Rd w A xs) : Rd w.drew A xs := h
theorem own_bk_ne {w : World} {base : Nat} {e t : TypeId} {size n g : Nat} {v : Value} {xs : List Value} {cs : Array Value} (h : w.ownsRow base e size v n xs) (hg : Bk w g t cs) (hne : e ≠ t) : some g ≠ v.ownBlock := by
  rcases h.2 with ⟨rfl, _⟩ | ⟨g', cap, cur, rfl, _, hh, _⟩
  · simp [Value.ownBlock]
  · intro he
    have e' : g = g' := by simpa [Value.ownBlock] using he
    subst e'
    unfold Bk at hg
    rw [hh] at hg
    injection hg with hg
    injection hg with _ ht
    exact hne ht

end Go.Proofs.Ytidmbeeadbedaaa

/- Walks over the laws' helpers for impl.Step: eqStep, eqStepS, markStepS, heldStepS and the readings of slices of them. -/
namespace Go.Proofs.Ytidmbeeadbedaaa
open Go.RowKit Go.Shelf

abbrev StepT : Type := Int × Int
def encStep (x : StepT) : List Value := [.int .i64 x.1, .int .i64 x.2]
def cellsStep (xs : List StepT) : List Value := xs.flatMap encStep
theorem encStep_len (x : StepT) : (encStep x).length = 2 := rfl
theorem cellsStep_len (xs : List StepT) : (cellsStep xs).length = xs.length * 2 := flat_len (enc := encStep) (m := 2) (fun _ => rfl) xs
theorem info_Step : (Try.prog.info? 61).map (fun i => (i.zero, i.size, i.bytes)) = some (some (.agg #[.int .i64 0, .int .i64 0]), 2, 16) := by kernel_rfl

/-- The cells of element k. -/
theorem rd_Step {w : World} {A : Option Addr} {xs : List StepT} (h : Rd w A (cellsStep xs)) {k : Nat} (hk : k < xs.length) : ∃ b off, A = some ⟨b, off, none⟩ ∧ b < w.heap.size ∧
    w.cell? ⟨b, off + k * 2, none⟩ = some (.int .i64 xs[k].1) ∧ w.cell? ⟨b, off + k * 2 + 1, none⟩ = some (.int .i64 xs[k].2) := by
  have f0 := flat_get (enc := encStep) (m := 2) (fun _ => rfl) xs k 0 hk (by omega)
  obtain ⟨b, off, e, hb, hc⟩ := h (by intro e; unfold cellsStep at e; rw [e] at f0; cases f0)
  refine ⟨b, off, e, hb, ?_, ?_⟩
  · exact hc (k * 2) _ f0
  · exact hc (k * 2 + 1) _ (flat_get (enc := encStep) (m := 2) (fun _ => rfl) xs k 1 hk (by omega))





end Go.Proofs.Ytidmbeeadbedaaa

/- Walks over within, l01In, allWithin, slices.IndexFunc and ContainsFunc at []int, and both WeightsOk: each returns what wtsOk says, for all arguments. -/
namespace Go.Proofs.Ytidmbeeadbedaaa
open Go.RowKit Go.Shelf

set_option maxHeartbeats 400000 in
theorem l01In_any (n lo hi : Int) (w : World) :
    Calls Try.prog 128 #[.int .i64 n, .int .i64 lo, .int .i64 hi] w fun e w' => e = .returned (.bool (inB n lo hi)) ∧ w = w' := by
  unfold inB
  by_cases h1 : lo ≤ n <;> by_cases h2 : n ≤ hi
  all_goals
    go_enter Try.func128, Try.ntmps128
    go_wp2
    go_ret
    exact ⟨by simp [*], rfl⟩

set_option maxHeartbeats 400000 in
theorem within_any (n lo hi : Int) (w : World) :
    Calls Try.prog 106 #[.int .i64 n, .int .i64 lo, .int .i64 hi] w fun e w' => e = .returned (.bool (inB n lo hi)) ∧ w = w' := by
  unfold inB
  by_cases h1 : lo ≤ n <;> by_cases h2 : n ≤ hi
  all_goals
    go_enter Try.func106, Try.ntmps106
    go_wp2
    go_ret
    exact ⟨by simp [*], rfl⟩

set_option maxHeartbeats 400000 in
theorem indexFunc_int (A : Option Addr) (n c : Nat) (xs : List Int) (g : FuncId) (lb : Array Value) (p : Int → Bool) (w : World) (eg : ∀ args w, (callFunc g args).run Try.prog w = .ok (.enter g args) w) (hr : Rd w A (ints xs)) (hn : n = xs.length) (hb : n ≤ 1048576)
    (hf : ∀ (W : World) (x : Int), Below w.heap.size w W → Calls Try.prog g (#[.int .i64 x] ++ lb) W (Kept W (.bool (p x)))) :
    Calls Try.prog 205 #[.slice A n c, .func (.func g) #[] lb] w (Kept w (.int .i64 (idxI p xs))) := by
  subst hn
  go_enter Try.func205, Try.ntmps205
  have HF := Lib.hid hf
  clear hf
  go_wp2
  go_loopw [8] (fun i wr => ∃ (j : Nat), j ≤ xs.length ∧ i = .int .i64 j ∧ (xs.take j).all (fun x => !p x) = true ∧ Below w.heap.size w wr) (fun i _ => xs.length - (intOf i).toNat)
  case atStart => exact ⟨0, Nat.zero_le _, rfl, by simp, Below.refl _ _⟩
  case round =>
    obtain ⟨j, hj, rfl, hA, hW⟩ := hrel
    have HA := Lib.hid hA
    clear hA
    by_cases hlt : j < xs.length
    · have hz := ints_get xs j hlt
      obtain ⟨b, o, rfl, hbl, hc⟩ := hr (by intro e; rw [e] at hz; cases hz)
      obtain ⟨v, hv⟩ : ∃ v, v = xs[j] := ⟨_, rfl⟩
      rw [← hv] at hz
      have c1 := (hW.cell (p := ⟨b, o + j, none⟩) hbl).trans (hc j _ hz)
      have HV := Lib.hid hv
      clear hc hr hz hv
      go_wp2_with fail
      refine (HF.out _ v hW).mono ?_
      rintro e w' ⟨rfl, hW2⟩
      have hW3 := hW.trans (hW2.mono hW.size)
      obtain ⟨r, hrr⟩ : ∃ r, r = p v := ⟨_, rfl⟩
      rw [← hrr]
      have HR := Lib.hid hrr
      clear hrr hW2
      cases r
      · go_wp2_with fail
        go_roundw
        case rel => exact ⟨j + 1, by omega, by go_num, by rw [List.take_succ_eq_append_getElem hlt, List.all_append, HA.out]; simp [← HV.out, ← HR.out], hW3⟩
        case measure => simp [intOf]; omega
      · go_wp2_with fail
        go_ret
        exact ⟨ret_int (by rw [idx_hit hlt HA.out (by rw [← HV.out, ← HR.out])]), hW3⟩
    · have : j = xs.length := by omega
      subst this
      go_wp2
      go_ret
      exact ⟨ret_int (by rw [idx_miss (by simpa using HA.out)]), hW⟩

set_option maxHeartbeats 400000 in
theorem containsFunc_int (A : Option Addr) (n c : Nat) (xs : List Int) (g : FuncId) (lb : Array Value) (p : Int → Bool) (w : World) (eg : ∀ args w, (callFunc g args).run Try.prog w = .ok (.enter g args) w) (hr : Rd w A (ints xs)) (hn : n = xs.length) (hb : n ≤ 1048576)
    (hf : ∀ (W : World) (x : Int), Below w.heap.size w W → Calls Try.prog g (#[.int .i64 x] ++ lb) W (Kept W (.bool (p x)))) :
    Calls Try.prog 193 #[.slice A n c, .func (.func g) #[] lb] w (Kept w (.bool (xs.any p))) := by
  go_enter Try.func193, Try.ntmps193
  have HF := Lib.hid hf
  have HN := Lib.hid hn
  clear hf hn
  go_wp2_with fail
  refine (indexFunc_int A n c xs g lb p w eg hr HN.out hb HF.out).mono ?_
  rintro e w' ⟨rfl, hW⟩
  obtain ⟨r, hrr⟩ : ∃ r, r = idxI p xs := ⟨_, rfl⟩
  rw [← hrr]
  have HR := Lib.hid hrr
  clear hrr
  go_wp2
  go_ret
  exact ⟨ret_bool (by rw [HR.out]; exact findIdx_bool p xs), hW⟩


/-- WeightsOk, in plain words. -/
def wtsOk (m : Int) (zs : List Int) : Bool := inB m 1 12 && inB zs.length 1 4 && zs.all (fun x => inB x 0 (m - 1))

/-- The literal of allWithin: it has captured two variables of one cell each. -/
theorem allWithin1_any (x lo hi : Int) (b1 b2 : Nat) (w : World) (h1 : w.cell? ⟨b1, 0, none⟩ = some (.int .i64 lo)) (h2 : w.cell? ⟨b2, 0, none⟩ = some (.int .i64 hi)) :
    Calls Try.prog 194 #[.int .i64 x, .pointer (some ⟨b1, 0, none⟩), .pointer (some ⟨b2, 0, none⟩)] w (Kept w (.bool (!inB x lo hi))) := by
  go_enter Try.func194, Try.ntmps194
  go_wp2_with fail
  refine (within_any x lo hi _).mono ?_
  rintro e w' ⟨rfl, rfl⟩
  obtain ⟨r, hrr⟩ : ∃ r', r' = (inB x lo hi) := ⟨_, rfl⟩
  rw [← hrr]
  have HR := Lib.hid hrr
  clear hrr
  go_wp2_with fail
  go_ret
  exact ⟨ret_bool (by rw [HR.out]), Below.refl _ _⟩

theorem allWithin_any (A : Option Addr) (n c : Nat) (zs : List Int) (lo hi : Int) (w : World) (hr : Rd w A (ints zs)) (hn : n = zs.length) (hb : n ≤ 1048576) :
    Calls Try.prog 159 #[.slice A n c, .int .i64 lo, .int .i64 hi] w (Kept w (.bool (zs.all (fun x => inB x lo hi)))) := by
  have hmf : ∀ (fn : Fn) (first cap : Array Value) (w : World), (Instr.makeFunc fn first cap).run Try.prog w = .ok (.func fn first cap) w := fun _ _ _ _ => rfl
  have eg := enters_of Try.func194 (by kernel_rfl) rfl
  have Hn := Lib.hid hn
  clear hn
  go_enter Try.func159, Try.ntmps159
  go_wp2_with fail
  have hW : Below w.heap.size w ((w.alloc (.cells #[.int .i64 lo] 3)).alloc (.cells #[.int .i64 hi] 3)) := (((Below.refl _ _).alloc (Nat.le_refl _) _).alloc (by simp) _)
  refine (containsFunc_int A n c zs _ _ (fun x => !inB x lo hi) _ eg (hr.keep hW) Hn.out hb ?_).mono ?_
  · intro W x hB
    exact allWithin1_any x lo hi _ _ W ((hB.cell (by simp <;> omega)).trans (by simp [go_sem])) ((hB.cell (by simp <;> omega)).trans (by simp [go_sem]))
  rintro e w' ⟨rfl, hW2⟩
  obtain ⟨r, hrr⟩ : ∃ r', r' = (zs.any (fun x => !inB x lo hi)) := ⟨_, rfl⟩
  rw [← hrr]
  have HR := Lib.hid hrr
  clear hrr
  go_wp2_with fail
  go_ret
  exact ⟨ret_bool (by rw [HR.out]; exact not_any_not _ _), hW.trans (hW2.mono (by simp; omega))⟩

theorem implWts_any (m : Int) (A : Option Addr) (n c : Nat) (zs : List Int) (w : World) (hr : Rd w A (ints zs)) (hn : n = zs.length) (hb : n ≤ 1048576) :
    Calls Try.prog 111 #[.int .i64 m, .slice A n c] w (Kept w (.bool (wtsOk m zs))) := by
  subst hn
  unfold wtsOk
  go_enter Try.func111, Try.ntmps111
  go_wp2_with fail
  refine (within_any m 1 12 _).mono ?_
  rintro e w' ⟨rfl, rfl⟩
  obtain ⟨r1, hrr⟩ : ∃ r', r' = (inB m 1 12) := ⟨_, rfl⟩
  rw [← hrr]
  have H1 := Lib.hid hrr
  clear hrr
  cases r1
  · go_wp2_with fail
    go_ret
    exact ⟨ret_bool (by simp [← H1.out]), Below.refl _ _⟩
  · obtain ⟨hm1, hm2⟩ := inB_out H1.out
    go_wp2_with fail
    refine (within_any _ 1 4 _).mono ?_
    rintro e w' ⟨rfl, rfl⟩
    obtain ⟨r2, hrr⟩ : ∃ r', r' = (inB zs.length 1 4) := ⟨_, rfl⟩
    rw [← hrr]
    have H2 := Lib.hid hrr
    clear hrr
    cases r2
    · go_wp2_with fail
      go_ret
      exact ⟨ret_bool (by simp [← H2.out]), Below.refl _ _⟩
    · skip
      go_wp2_with fail
      refine (allWithin_any A _ c zs 0 (m - 1) _ hr rfl hb).mono ?_
      rintro e w' ⟨rfl, hW⟩
      obtain ⟨r3, hrr⟩ : ∃ r', r' = (zs.all (fun x => inB x 0 (m - 1))) := ⟨_, rfl⟩
      rw [← hrr]
      have H3 := Lib.hid hrr
      clear hrr
      go_wp2_with fail
      go_ret
      exact ⟨ret_bool (by simp [← H1.out, ← H2.out, ← H3.out]), hW⟩

end Go.Proofs.Ytidmbeeadbedaaa
