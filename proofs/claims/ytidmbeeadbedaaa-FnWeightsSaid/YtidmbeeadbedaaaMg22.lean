/- Merged texts: a claim has a limit of files. -/
import Derived.Test.YtidmbeeadbedaaaBx
import Derived.Deep.RegionHeld3
import Derived.Test.YtidmbeeadbedaaaMg21
import Derived.Test.YtidmbeeadbedaaaBxI

/- A region that draws its order, in a round of a range over a function at the wide fence: it goes as a region outside (wpAnyH), if it holds no defer statement. -/
namespace Go.Proofs.Ytidmbeeadbedaaa
open Go.RowKit Go.Shelf

def onlyN (Kq : Act → World → Prop) : Exit → Act → World → Prop
  | .normal, a, w => Kq a w
  | _, _, _ => False
def noDefer (ops : Array Oper) : Bool := ops.toList.all (fun o => match o.op with | .defer _ => false | _ => true)
theorem noDefer_at {ops : Array Oper} (h : noDefer ops = true) {i : Nat} {o : Oper} (hi : ops[i]? = some o) : ∀ c, o.op ≠ .defer c := fun c hc => by
  rw [← Array.getElem?_toList] at hi
  have h2 := List.all_eq_true.1 h o (List.mem_of_getElem? hi)
  rw [hc] at h2
  cases h2
theorem letsOut_only {Kq : Act → World → Prop} (h : LetsOut (onlyN Kq)) : False := by
  obtain ⟨_, _, h⟩ := h
  exact h

theorem op_round {P : Program} {o : Oper} {a : Act} {w : World} {K K' Kq : Act → World → Prop} {Q : Exit → Act → World → Prop} (l n : Nat) (hd : ∀ c, o.op ≠ .defer c) (hK : ∀ a w, K a w → K' a w) (h : o.wp P a w K (onlyN Kq)) : o.wpIn (Fence.wide.inRound l) n P a w K' Q := by
  refine ⟨fun _ _ => trivial, ?_⟩
  show o.uponIn (Fence.wide.inRound l) n P a K' Q ((o.semAt (some l) a.eval).run P w)
  rw [Oper.semAt_some l _ o hd]
  unfold Oper.wp at h
  generalize (execOp a.eval o).run P w = r at *
  cases r with
  | ok x w' =>
    cases x with
    | value v => exact hK _ _ h
    | skip => exact hK _ _ h
    | defer d => exact hK _ _ h
    | enter f args =>
      refine ⟨fun h => (by cases h), (CallsIn.inRound l ((callsIn_wide (n := n - 1)).2 h)).mono fun e w'' he => ?_⟩
      cases e with
      | returned v => exact hK _ _ he
      | panicked c => exact False.elim he
      | outgrown => exact (letsOut_only he).elim
    | row row args => exact ⟨fun h => (by cases h), fun c cs _ => let ⟨v, w', r, s⟩ := h c cs; ⟨v, w', hK _ _ r, stepsIn_wide.2 s⟩⟩
    | _ => exact False.elim h
  | halt x w' =>
    cases x with
    | panic v => exact False.elim h
    | _ => exact False.elim h

theorem any_round {P : Program} {md : Region.Mode} {ops : Array Oper} {Kq : Act → World → Prop} {Q : Exit → Act → World → Prop} (l n : Nat) (hd : noDefer ops = true) (hQ : ∀ a w, Kq a w → Q .normal a w) : ∀ (fuel : Nat) (listed : Array Bool) (a : Act) (w : World), wpAny P md ops (onlyN Kq) fuel listed a w → wpAnyIn (Fence.wide.inRound l) n P md ops Q fuel listed a w
  | 0, _, _, _, h => ⟨h.1, hQ _ _ h.2⟩
  | fuel + 1, listed, a, w, h => by
    refine ⟨fun e => hQ _ _ (h.1 e), fun i hi => ?_⟩
    have hx := h.2 i hi
    have ih := fun a' w' => any_round (P := P) (md := md) (ops := ops) l n hd hQ fuel (listed.setIfInBounds i true) a' w'
    unfold wpOp at hx
    unfold wpOpIn
    cases ho : ops[i]? with
    | none =>
      rw [ho] at hx
      exact ih _ _ hx
    | some o =>
      rw [ho] at hx
      dsimp only at hx ⊢
      split
      · rename_i hw
        rw [if_pos hw] at hx
        rcases hx with hx | ⟨_, hx⟩
        · exact op_round l n (noDefer_at hd ho) ih hx
        · exact (letsOut_only hx).elim
      · rename_i hw
        rw [if_neg hw] at hx
        exact ⟨fun _ _ => trivial, ih _ _ hx⟩

theorem region_round {P : Program} {ops : Array Oper} {S : World → Prop} {Q : Exit → Act → World → Prop} {id l n : Nat} {a : Act} {w : World} (hm : P.follows .mixedOrders = true) (hd : noDefer ops = true) (hS : S w.drew)
    (h : S w.drew → wpAnyH P .any ops (onlyN (fun a w => Q .normal a w)) S ops.size (Array.replicate ops.size false) a w.drew) : (Code.region id ops true).wpIn (Fence.wide.inRound l) n P Q a w :=
  wpIn_region_any hm (any_round l n hd (fun _ _ h => h) _ _ _ _ (wpAny_of_held _ _ _ _ (h hS)))

/-- The same, where the temporaries behind the assignment are told by a function. -/
theorem rangeFunc_at {F : Fence} {n : Nat} {P : Program} {α : Type} {g : Operand} {ps : Array Tmp} {assign body : Code} {Q : Exit → Act → World → Prop} {a : Act} {w : World}
    (hro : F.round = none) (h1 : 1 ≤ n) {gf : Nat} {lb : Array Value} (hg : a.eval g = .func (.func gf) #[] lb) (hFg : F.fn gf) (eg : ∀ args w, (callFunc gf args).run P w = .ok (.enter gf args) w)
    {encs : α → Array Value} {Mem : List α → α → World → Prop} {S : List α → Prop} {N B : Nat} (hseq : StopsM F (n - 1) P gf lb encs Mem S N B w)
    (hMem : ∀ (pre : List α) (x : α) (W : World) (l : Nat) (o o' : Obj), W.heap[l]? = some o → o.isCells = false → Mem pre x W → Mem pre x (W.putObj l o')) (hps : ∀ x, (encs x).size = ps.size)
    (I Ix : List α → World → Prop) (hI : NewOk w.heap.size I) (hIx : ∀ (s : List α) (W : World) (l : Nat) (o o' : Obj), w.heap.size ≤ l → W.heap[l]? = some o → o.isCells = false → Ix s W → Ix s (W.putObj l o')) (h0 : I [] w) (f : Array Value → α → Array Value)
    (hassign : ∀ (l : Nat) (x : α) (W : World) (K : Act → World → Prop), K { tmps := f a.tmps x, defers := [] } W →
      assign.wpIn (F.inRound l) (n - 1 - 1) P (Exit.then K (fun _ _ _ => False)) { tmps := (ps.zip (encs x)).foldl (fun t (p, v) => t.setIfInBounds p v) a.tmps, defers := [] } W)
    (hbody : ∀ (l : Nat) (pre : List α) (x : α) (W : World), I pre W → Mem pre x W → pre.length < N → body.wpIn (F.inRound l) (n - 1 - 1) P (endsM B I Ix (pre ++ [x]) W) { tmps := f a.tmps x, defers := [] } W)
    (hdone : ∀ (D : Nat) (xs : List α) (W : World), w.heap.size ≤ D → S xs → I xs W → W.heap[D]? = some (.deferred (some [])) → Q .normal { a with defers := { target := .collected D, args := #[] } :: a.defers } W)
    (hstop : ∀ (D : Nat) (pre : List α) (W : World), w.heap.size ≤ D → Ix pre W → W.heap[D]? = some (.deferred (some [])) → Code.ret.wpIn F n P Q { a with defers := { target := .collected D, args := #[] } :: a.defers } W) :
    (Code.rangeFunc g ps assign body).wpIn F n P Q a w :=
  rangeFunc_mem hro h1 hg hFg eg hseq hMem hps I Ix hI hIx h0 (fun x => { tmps := f a.tmps x, defers := [] }) hassign hbody hdone hstop

end Go.Proofs.Ytidmbeeadbedaaa

/- Walk over WeightApart of the reference; slices.Clone at int. -/
namespace Go.Proofs.Ytidmbeeadbedaaa
open Go.RowKit Go.Shelf

def waCond (l : Int) (rs : List RuleT) (m : Int) (u v : ByteArray) : Bool := rulesOk l rs && (decide (1 ≤ m) && decide (m ≤ 6)) && wordOk l u && wordOk l v
/-- The words have different weights. -/
def apartW (m : Int) (u v : ByteArray) (ws : List Int) : Bool := !decide (weightV m ws u = weightV m ws v)
def waF (l : Int) (rs : List RuleT) (m : Int) (u v : ByteArray) : Option (List Int) := if waCond l rs m u v = true then (keptL l rs m).find? (apartW m u v) else none
def waL (l : Int) (rs : List RuleT) (m : Int) (u v : ByteArray) : List Int := (waF l rs m u v).getD []
def waOk (l : Int) (rs : List RuleT) (m : Int) (u v : ByteArray) : Bool := (waF l rs m u v).isSome
theorem wa_none {l : Int} {rs : List RuleT} {m : Int} {u v : ByteArray} (h : waF l rs m u v = none) : waL l rs m u v = [] ∧ waOk l rs m u v = false := by
  rw [waL, waOk, h]
  exact ⟨rfl, rfl⟩
theorem wa_some {l : Int} {rs : List RuleT} {m : Int} {u v : ByteArray} {ws : List Int} (h : waF l rs m u v = some ws) : waL l rs m u v = ws ∧ waOk l rs m u v = true := by
  rw [waL, waOk, h]
  exact ⟨rfl, rfl⟩
theorem kept_mem {l : Int} {rs : List RuleT} {m : Int} {ws : List Int} (hm : 1 ≤ m) (h : ws ∈ keptL l rs m) : ws.length = l.toNat ∧ (∀ q (hq : q < ws.length), 0 ≤ ws[q] ∧ ws[q] < m) := by
  have h1 := (List.mem_filter.1 h).1
  obtain ⟨k, _, rfl⟩ := List.mem_map.1 h1
  refine ⟨boxAt_len _ _ _, fun q hq => ?_⟩
  have h9 := boxAt_mem (b := m.toNat) (by omega) l.toNat k _ (List.getElem_mem hq)
  omega
theorem waL_len {l : Int} {rs : List RuleT} {m : Int} {u v : ByteArray} : (waL l rs m u v).length ≤ 1048576 := by
  rw [waL]
  cases h : waF l rs m u v with
  | none => exact Nat.zero_le _
  | some ws =>
    rw [waF] at h
    split at h
    · rename_i hc
      have hm := List.mem_of_find?_eq_some h
      unfold waCond rulesOk inB at hc
      simp only [Bool.and_eq_true, decide_eq_true_eq] at hc
      have h1 := (kept_mem hc.1.1.2.1 hm).1
      have h2 := hc.1.1.1.1.1
      show ws.length ≤ 1048576
      omega
    · cases h
theorem find_skip {α : Type} {p : α → Bool} {xs : List α} {k : Nat} {x : α} (hk : xs[k]? = some x) (h : ∀ y ∈ xs.take k, p y = false) (hx : p x = true) : xs.find? p = some x := by
  induction k generalizing xs with
  | zero =>
    cases xs with
    | nil => cases hk
    | cons y ys =>
      injection hk with hk
      subst hk
      rw [List.find?_cons, hx]
  | succ k ih =>
    cases xs with
    | nil => cases hk
    | cons y ys =>
      rw [List.find?_cons, h y (by simp)]
      exact ih hk (fun z hz => h z (by simp [hz]))

theorem kept_few {l : Int} {rs : List RuleT} {m : Int} (hl : l ≤ 4) (hm : m ≤ 6) : (keptL l rs m).length ≤ 1296 := by
  refine Nat.le_trans (List.length_filter_le _ _) ?_
  rw [boxes_len]
  exact box_few (by omega) (by omega)

set_option maxRecDepth 100000 in
set_option maxHeartbeats 2000000 in
theorem cloneInt_any (a : Addr) (n c : Nat) (ls : List Int) (w : World) (hr : Rd w (some a) (ints ls)) (hn : n = ls.length) (hb : n ≤ 1048576) :
    Calls Try.prog 110 #[.slice (some a) n c] w (MadeSl w 3 1 n (ints ls)) := by
  have hO0 := own_of_bk (base := w.heap.size) (m := 1) (n := 0) (Bk.new w 3 #[]) (Nat.le_refl _) rfl (by unfold maxLen; omega)
  have hW0 : Below w.heap.size w (w.alloc (.cells #[] 3)) := (Below.refl _ _).alloc (Nat.le_refl _) _
  have hlen : (ints ls).length = n * 1 := by rw [ints_len, hn, Nat.mul_one]
  have hcells : ∀ j u, (ints ls)[j]? = some u → (w.alloc (.cells #[] 3)).cell? (a.add j) = some u := by
    intro j u hu
    obtain ⟨b, o, e, hl, hc⟩ := hr (by intro e; rw [e] at hu; cases hu)
    injection e with e
    subst e
    have e' : (⟨b, o, none⟩ : Addr).add j = ⟨b, o + j, none⟩ := by unfold Addr.add; split <;> simp_all
    rw [e', ← hc j u hu]
    exact ((Below.refl w.heap.size w).alloc (Nat.le_refl _) (.cells #[] 3)).cell hl
  have h1c : ∀ u ∈ ints ls, u.oneCell' = true := by
    intro u hu
    obtain ⟨x, _, rfl⟩ := List.mem_map.1 hu
    rfl
  have q22 : ∀ (w : World) (a : Option Addr) (n c n' c' : Nat), (Go.binOp .eql 73 (.slice a n c) (.slice none n' c')).run Try.prog w = .ok (.bool a.isNone) w := fun w a n c n' c' => Lib.run_eql_slice_nil w _ _ a n c n' c' Try.underlying73
  obtain ⟨i0, hi, hz0, hz1, hz2⟩ := info_parts info_int
  obtain ⟨L, hL⟩ : ∃ L, L = ints ls := ⟨_, rfl⟩
  rw [← hL] at hlen hcells h1c ⊢
  have Hr := Lib.hid hr
  clear hr
  have Hn := Lib.hid hn
  clear hn
  have HO0 := Lib.hid hO0
  clear hO0
  have HW0 := Lib.hid hW0
  clear hW0
  have HL := Lib.hid hL
  clear hL
  have Hcells := Lib.hid hcells
  clear hcells
  have H1c := Lib.hid h1c
  clear h1c
  go_enter Try.func110, Try.ntmps110
  go_wp2_with (at_builtin; refine wpList_append_own _ rfl _ _ 73 rfl w.heap.size 3 i0 _ 1 8 Try.underlying73 hi hz0 hz1 hz2 rfl (by omega) (.slice (some ⟨w.heap.size, 0, none⟩) 0 0) 0 [] rfl HO0.out a n c L rfl hlen Hcells.out H1c.out (by unfold maxLen; omega) (by omega) (by simp) ?_; intro v' w' hO hG hX)
  obtain ⟨A5, c5, rfl⟩ := own_form hO
  have hW5 := HW0.out.grown hG (by simp) fun k hk => by
    have : w.heap.size = k := by simpa [Value.ownBlock] using hk
    omega
  have hO5 : w'.ownsRow w.heap.size 3 1 (.slice A5 n c5) n L := by simpa using hO
  clear hO hG
  have HO5 := Lib.hid hO5
  clear hO5
  have HW5 := Lib.hid hW5
  clear hW5
  go_wp2_with fail
  go_ret
  exact ⟨A5, c5, by simp, HO5.out, HW5.out⟩


end Go.Proofs.Ytidmbeeadbedaaa
