/- Merged texts: a claim has a limit of files. -/
import Derived.Test.YtidmbeeadbedaaaMg1
import Derived.Deep.AppendLies
import Derived.Test.YtidmbeeadbedaaaBase
import Derived.ProofKit
import Derived.OpenShut
import Derived.ShutString
import Derived.ChangeOld
import Derived.Deep.Slices
import Derived.Deep.Fields
import Derived.Lib.SmallJoins

/- append of one element, onto a slice of the call's own, nil or not: where it lies afterwards; another slice lies apart from it for ever. -/
namespace Go.Proofs.Ytidmbeeadbedaaa
open Go.RowKit Go.Shelf

theorem wpList_app5 {P : Program} {ops : Array Oper} {rest : List Oper} {o : Oper} {a : Act} {Q : Exit → Act → World → Prop} (w w0 : World) (b0 : Nat) (hb0 : w0.heap.size = b0) (hgd : o.guard = none) (s x : Operand) (t : TypeId)
    (ho : o.op = .call { callee := .builtin .append, args := #[s, x], argTypes := #[t, t] }) (base e size bytes : Nat) (z : Value) (ht : P.underlying t = some (.slice e))
    (hinfo : (P.info? e).map (fun i => (i.zero, i.size, i.bytes)) = some (some z, size, bytes)) (hzs : z.cells.size = size) (hsz : 0 < size) (v : Value) (n : Nat) (xs : List Value) (cs : Array Value)
    (hw : w = w0.alloc (.cells cs e)) (hs : a.eval s = v) (hx : a.eval x = .slice (some ⟨b0, 0, none⟩) 1 1) (hown : w0.ownsRow base e size v n xs) (hcs : cs.size = size) (h1 : ∀ u ∈ cs.toList, u.oneCell' = true)
    (hn : (n + 1) * bytes ≤ 140737488355328) (hm : n + 1 ≤ maxLen) (hbase : base ≤ b0)
    (h : ∀ g c w', w'.ownsRow base e size (.slice (some ⟨g, 0, none⟩) (n + 1) c) (n + 1) (xs ++ cs.toList) → Below base w0 w' → w0.grownBy w' v.ownBlock → (v.ownBlock = some g ∨ b0 ≤ g) → wpList P ops Q rest (a.put o.dst (.slice (some ⟨g, 0, none⟩) (n + 1) c)) w') :
    wpList P ops Q (o :: rest) a w := by
  subst hb0
  subst hw
  obtain ⟨i0, hi, hz0, hz1, hz2⟩ := info_parts hinfo
  refine wpList_append_lies _ hgd s x t ho base e i0 z size bytes ht hi hz0 hz1 hz2 hzs hsz v n xs hs (hown.alloc _) ⟨w0.heap.size, 0, none⟩ 1 1 cs.toList hx (by simpa using hcs) ?_ h1 (by omega) hm hn (by simp; omega) _ rfl ?_
  · intro j u hu
    have e' : (⟨w0.heap.size, 0, none⟩ : Addr).add j = ⟨w0.heap.size, j, none⟩ := by unfold Addr.add; split <;> simp_all
    rw [e', (Bk.new w0 e cs).cell j]
    simpa using hu
  · intro g' c' w' hown' hgrow hat hlt
    have hgb : w0.grownBy w' v.ownBlock := (World.grownBy_alloc w0 _ v.ownBlock).trans hgrow
    have hb0 : Below base w0 (w0.alloc (.cells cs e)) := (Below.refl _ _).alloc hbase _
    refine h g' c' w' hown' (hb0.grown hgrow (by simp; omega) fun k hk => ((hown.alloc (.cells cs e)).lt k hk).1) hgb ?_
    rcases hat with hat | hat
    · exact .inl hat
    · right
      rw [hat]; simp

/-- The slice v of the call's own and the slice at P lie apart. -/
def Apt (v : Value) (P : Option Addr) (w : World) : Prop := ∀ p, P = some p → v.ownBlock ≠ some p.block ∧ p.block < w.heap.size
theorem Apt.below {v : Value} {P : Option Addr} {w w' : World} {B : Nat} (h : Apt v P w) (hb : Below B w w') : Apt v P w' := fun p hp => ⟨(h p hp).1, Nat.lt_of_lt_of_le (h p hp).2 hb.size⟩
theorem Apt.next {v : Value} {P : Option Addr} {w w' : World} {g n c : Nat} (h : Apt v P w) (hg : w.grownBy w' v.ownBlock) (hat : v.ownBlock = some g ∨ w.heap.size ≤ g) : Apt (.slice (some ⟨g, 0, none⟩) n c) P w' := fun p hp => by
  obtain ⟨h1, h2⟩ := h p hp
  refine ⟨fun e => ?_, Nat.lt_of_lt_of_le h2 hg.size⟩
  have e2 : g = p.block := by simpa [Value.ownBlock] using e
  rcases hat with h3 | h3
  · rw [e2] at h3; exact h1 h3
  · omega
theorem Apt.rd {v : Value} {P : Option Addr} {w w' : World} {xs : List Value} (h : Apt v P w) (hr : Rd w P xs) (hg : w.grownBy w' v.ownBlock) : Rd w' P xs := hr.grown hg (fun a ha => (h a ha).1)
theorem Apt.of_own {w : World} {v : Value} {base : Nat} {t : TypeId} {m n c : Nat} {P : Option Addr} {xs : List Value} (h : w.ownsRow base t m (.slice P n c) n xs) (hv : ∀ k, v.ownBlock = some k → k < base) : Apt v P w := fun p hp => by
  rcases h.2 with ⟨h1, _⟩ | ⟨g, cap, cur, h1, hb, hh, _⟩
  · injection h1 with h1; rw [h1] at hp; cases hp
  · injection h1 with h1
    rw [h1] at hp
    injection hp with hp
    subst hp
    exact ⟨fun e => by have := hv g e; omega, (Array.getElem?_eq_some_iff.1 hh).1⟩
theorem Apt.bk {v : Value} {g : Nat} {w w' : World} {t : TypeId} {cs : Array Value} (h : Apt v (some ⟨g, 0, none⟩) w) (hb : Bk w g t cs) (hg : w.grownBy w' v.ownBlock) : Bk w' g t cs := hb.grown hg (fun e => (h _ rfl).1 e.symm)
theorem Apt.new {v : Value} {w : World} {base : Nat} {t : TypeId} {m n : Nat} {xs : List Value} (h : w.ownsRow base t m v n xs) (o : Obj) : Apt v (some ⟨w.heap.size, 0, none⟩) (w.alloc o) := fun p hp => by
  injection hp with hp
  subst hp
  refine ⟨fun e => ?_, by simp⟩
  have := (h.lt _ e).2
  simp at this
end Go.Proofs.Ytidmbeeadbedaaa

/- Arguments opened: how the parameters of the laws read, as values and cells, for the rows' proofs. -/
namespace Go.Proofs.Ytidmbeeadbedaaa
open Go.ChangeShapes Go.WideShapes Go.ChangeAt Go.RowKit Go.Shelf

theorem own_knob : ownKnob Try.prog.godebug = none := by kernel_rfl
theorem laid_out : laidOutB Try.prog = true := by kernel_rfl

theorem cell_spot {w : World} {a : Addr} {v : Value} (h : w.cell? a = some v) : a = ⟨a.block, a.off, none⟩ ∧ a.block < w.heap.size := by
  refine ⟨?_, World.block_lt_of_cell? w a h⟩
  unfold World.cell? at h
  split at h
  · split at h
    · cases h
    · next hs =>
      obtain ⟨b, o, s⟩ := a
      simp at hs
      subst hs
      rfl
  · cases h

theorem rd_of_cells {w : World} {a : Addr} {xs : List Value} (h : ∀ j u, xs[j]? = some u → w.cell? (a.add j) = some u) : Rd w (some a) xs := fun hn => by
  obtain ⟨x, t, rfl⟩ := List.exists_cons_of_ne_nil hn
  have h0 := h 0 x rfl
  have e0 : a.add 0 = a := by unfold Addr.add; simp
  rw [e0] at h0
  obtain ⟨e, hl⟩ := cell_spot h0
  refine ⟨a.block, a.off, by rw [← e], hl, fun j u hu => ?_⟩
  have hj := h j u hu
  have ea : a.add j = ⟨a.block, a.off + j, none⟩ := by
    rw [e]
    unfold Addr.add
    by_cases hz : j = 0 <;> simp [hz]
  rw [ea] at hj
  exact hj

section
variable {H : Type} {enc : TypeId × Value → H} {w : World} {base : Nat} {spare : Nat → Bool} {held : Bool}
end

end Go.Proofs.Ytidmbeeadbedaaa

/- Walks over within, l01In, allWithin, slices.IndexFunc and ContainsFunc at []int, and both WeightsOk: each returns what wtsOk says, for all arguments. -/
namespace Go.Proofs.Ytidmbeeadbedaaa
open Go.RowKit Go.Shelf

set_option maxHeartbeats 400000 in
theorem l01In_any (n lo hi : Int) (w : World) :
    Calls Try.prog 128 #[.int .i64 n, .int .i64 lo, .int .i64 hi] w fun e w' => e = .returned (.bool (inB n lo hi)) ∧ w = w' := by
  unfold inB
  by_cases h1 : lo ≤ n <;> by_cases h2 : n ≤ hi
  all_goals
    go_enter Try.func128, Try.ntmps128
    go_wp2
    go_ret
    exact ⟨by simp [*], rfl⟩

set_option maxHeartbeats 400000 in
theorem within_any (n lo hi : Int) (w : World) :
    Calls Try.prog 106 #[.int .i64 n, .int .i64 lo, .int .i64 hi] w fun e w' => e = .returned (.bool (inB n lo hi)) ∧ w = w' := by
  unfold inB
  by_cases h1 : lo ≤ n <;> by_cases h2 : n ≤ hi
  all_goals
    go_enter Try.func106, Try.ntmps106
    go_wp2
    go_ret
    exact ⟨by simp [*], rfl⟩

set_option maxHeartbeats 400000 in
theorem indexFunc_int (A : Option Addr) (n c : Nat) (xs : List Int) (g : FuncId) (lb : Array Value) (p : Int → Bool) (w : World) (eg : ∀ args w, (callFunc g args).run Try.prog w = .ok (.enter g args) w) (hr : Rd w A (ints xs)) (hn : n = xs.length) (hb : n ≤ 1048576)
    (hf : ∀ (W : World) (x : Int), Below w.heap.size w W → Calls Try.prog g (#[.int .i64 x] ++ lb) W (Kept W (.bool (p x)))) :
    Calls Try.prog 205 #[.slice A n c, .func (.func g) #[] lb] w (Kept w (.int .i64 (idxI p xs))) := by
  subst hn
  go_enter Try.func205, Try.ntmps205
  have HF := Lib.hid hf
  clear hf
  go_wp2
  go_loopw [8] (fun i wr => ∃ (j : Nat), j ≤ xs.length ∧ i = .int .i64 j ∧ (xs.take j).all (fun x => !p x) = true ∧ Below w.heap.size w wr) (fun i _ => xs.length - (intOf i).toNat)
  case atStart => exact ⟨0, Nat.zero_le _, rfl, by simp, Below.refl _ _⟩
  case round =>
    obtain ⟨j, hj, rfl, hA, hW⟩ := hrel
    have HA := Lib.hid hA
    clear hA
    by_cases hlt : j < xs.length
    · have hz := ints_get xs j hlt
      obtain ⟨b, o, rfl, hbl, hc⟩ := hr (by intro e; rw [e] at hz; cases hz)
      obtain ⟨v, hv⟩ : ∃ v, v = xs[j] := ⟨_, rfl⟩
      rw [← hv] at hz
      have c1 := (hW.cell (p := ⟨b, o + j, none⟩) hbl).trans (hc j _ hz)
      have HV := Lib.hid hv
      clear hc hr hz hv
      go_wp2_with fail
      refine (HF.out _ v hW).mono ?_
      rintro e w' ⟨rfl, hW2⟩
      have hW3 := hW.trans (hW2.mono hW.size)
      obtain ⟨r, hrr⟩ : ∃ r, r = p v := ⟨_, rfl⟩
      rw [← hrr]
      have HR := Lib.hid hrr
      clear hrr hW2
      cases r
      · go_wp2_with fail
        go_roundw
        case rel => exact ⟨j + 1, by omega, by go_num, by rw [List.take_succ_eq_append_getElem hlt, List.all_append, HA.out]; simp [← HV.out, ← HR.out], hW3⟩
        case measure => simp [intOf]; omega
      · go_wp2_with fail
        go_ret
        exact ⟨ret_int (by rw [idx_hit hlt HA.out (by rw [← HV.out, ← HR.out])]), hW3⟩
    · have : j = xs.length := by omega
      subst this
      go_wp2
      go_ret
      exact ⟨ret_int (by rw [idx_miss (by simpa using HA.out)]), hW⟩

set_option maxHeartbeats 400000 in
theorem containsFunc_int (A : Option Addr) (n c : Nat) (xs : List Int) (g : FuncId) (lb : Array Value) (p : Int → Bool) (w : World) (eg : ∀ args w, (callFunc g args).run Try.prog w = .ok (.enter g args) w) (hr : Rd w A (ints xs)) (hn : n = xs.length) (hb : n ≤ 1048576)
    (hf : ∀ (W : World) (x : Int), Below w.heap.size w W → Calls Try.prog g (#[.int .i64 x] ++ lb) W (Kept W (.bool (p x)))) :
    Calls Try.prog 193 #[.slice A n c, .func (.func g) #[] lb] w (Kept w (.bool (xs.any p))) := by
  go_enter Try.func193, Try.ntmps193
  have HF := Lib.hid hf
  have HN := Lib.hid hn
  clear hf hn
  go_wp2_with fail
  refine (indexFunc_int A n c xs g lb p w eg hr HN.out hb HF.out).mono ?_
  rintro e w' ⟨rfl, hW⟩
  obtain ⟨r, hrr⟩ : ∃ r, r = idxI p xs := ⟨_, rfl⟩
  rw [← hrr]
  have HR := Lib.hid hrr
  clear hrr
  go_wp2
  go_ret
  exact ⟨ret_bool (by rw [HR.out]; exact findIdx_bool p xs), hW⟩


/-- WeightsOk, in plain words. -/
def wtsOk (m : Int) (zs : List Int) : Bool := inB m 1 12 && inB zs.length 1 4 && zs.all (fun x => inB x 0 (m - 1))

/-- The literal of allWithin: it has captured two variables of one cell each. -/
theorem allWithin1_any (x lo hi : Int) (b1 b2 : Nat) (w : World) (h1 : w.cell? ⟨b1, 0, none⟩ = some (.int .i64 lo)) (h2 : w.cell? ⟨b2, 0, none⟩ = some (.int .i64 hi)) :
    Calls Try.prog 194 #[.int .i64 x, .pointer (some ⟨b1, 0, none⟩), .pointer (some ⟨b2, 0, none⟩)] w (Kept w (.bool (!inB x lo hi))) := by
  go_enter Try.func194, Try.ntmps194
  go_wp2_with fail
  refine (within_any x lo hi _).mono ?_
  rintro e w' ⟨rfl, rfl⟩
  obtain ⟨r, hrr⟩ : ∃ r', r' = (inB x lo hi) := ⟨_, rfl⟩
  rw [← hrr]
  have HR := Lib.hid hrr
  clear hrr
  go_wp2_with fail
  go_ret
  exact ⟨ret_bool (by rw [HR.out]), Below.refl _ _⟩

theorem allWithin_any (A : Option Addr) (n c : Nat) (zs : List Int) (lo hi : Int) (w : World) (hr : Rd w A (ints zs)) (hn : n = zs.length) (hb : n ≤ 1048576) :
    Calls Try.prog 159 #[.slice A n c, .int .i64 lo, .int .i64 hi] w (Kept w (.bool (zs.all (fun x => inB x lo hi)))) := by
  have hmf : ∀ (fn : Fn) (first cap : Array Value) (w : World), (Instr.makeFunc fn first cap).run Try.prog w = .ok (.func fn first cap) w := fun _ _ _ _ => rfl
  have eg := enters_of Try.func194 (by kernel_rfl) rfl
  have Hn := Lib.hid hn
  clear hn
  go_enter Try.func159, Try.ntmps159
  go_wp2_with fail
  have hW : Below w.heap.size w ((w.alloc (.cells #[.int .i64 lo] 3)).alloc (.cells #[.int .i64 hi] 3)) := (((Below.refl _ _).alloc (Nat.le_refl _) _).alloc (by simp) _)
  refine (containsFunc_int A n c zs _ _ (fun x => !inB x lo hi) _ eg (hr.keep hW) Hn.out hb ?_).mono ?_
  · intro W x hB
    exact allWithin1_any x lo hi _ _ W ((hB.cell (by simp <;> omega)).trans (by simp [go_sem])) ((hB.cell (by simp <;> omega)).trans (by simp [go_sem]))
  rintro e w' ⟨rfl, hW2⟩
  obtain ⟨r, hrr⟩ : ∃ r', r' = (zs.any (fun x => !inB x lo hi)) := ⟨_, rfl⟩
  rw [← hrr]
  have HR := Lib.hid hrr
  clear hrr
  go_wp2_with fail
  go_ret
  exact ⟨ret_bool (by rw [HR.out]; exact not_any_not _ _), hW.trans (hW2.mono (by simp; omega))⟩

theorem implWts_any (m : Int) (A : Option Addr) (n c : Nat) (zs : List Int) (w : World) (hr : Rd w A (ints zs)) (hn : n = zs.length) (hb : n ≤ 1048576) :
    Calls Try.prog 111 #[.int .i64 m, .slice A n c] w (Kept w (.bool (wtsOk m zs))) := by
  subst hn
  unfold wtsOk
  go_enter Try.func111, Try.ntmps111
  go_wp2_with fail
  refine (within_any m 1 12 _).mono ?_
  rintro e w' ⟨rfl, rfl⟩
  obtain ⟨r1, hrr⟩ : ∃ r', r' = (inB m 1 12) := ⟨_, rfl⟩
  rw [← hrr]
  have H1 := Lib.hid hrr
  clear hrr
  cases r1
  · go_wp2_with fail
    go_ret
    exact ⟨ret_bool (by simp [← H1.out]), Below.refl _ _⟩
  · obtain ⟨hm1, hm2⟩ := inB_out H1.out
    go_wp2_with fail
    refine (within_any _ 1 4 _).mono ?_
    rintro e w' ⟨rfl, rfl⟩
    obtain ⟨r2, hrr⟩ : ∃ r', r' = (inB zs.length 1 4) := ⟨_, rfl⟩
    rw [← hrr]
    have H2 := Lib.hid hrr
    clear hrr
    cases r2
    · go_wp2_with fail
      go_ret
      exact ⟨ret_bool (by simp [← H2.out]), Below.refl _ _⟩
    · skip
      go_wp2_with fail
      refine (allWithin_any A _ c zs 0 (m - 1) _ hr rfl hb).mono ?_
      rintro e w' ⟨rfl, hW⟩
      obtain ⟨r3, hrr⟩ : ∃ r', r' = (zs.all (fun x => inB x 0 (m - 1))) := ⟨_, rfl⟩
      rw [← hrr]
      have H3 := Lib.hid hrr
      clear hrr
      go_wp2_with fail
      go_ret
      exact ⟨ret_bool (by simp [← H1.out, ← H2.out, ← H3.out]), hW⟩

end Go.Proofs.Ytidmbeeadbedaaa
