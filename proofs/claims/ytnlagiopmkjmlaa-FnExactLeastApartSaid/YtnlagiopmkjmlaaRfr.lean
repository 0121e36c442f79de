/- A region that draws its order, in a round of a range over a function at the wide fence: it goes as a region outside (wpAnyH), if it holds no defer statement. -/
import Derived.Test.YtnlagiopmkjmlaaBx
import Derived.Deep.RegionHeld3
namespace Go.Proofs.Ytnlagiopmkjmlaa
open Go.RowKit Go.Shelf

def onlyN (Kq : Act → World → Prop) : Exit → Act → World → Prop
  | .normal, a, w => Kq a w
  | _, _, _ => False
def noDefer (ops : Array Oper) : Bool := ops.toList.all (fun o => match o.op with | .defer _ => false | _ => true)
theorem noDefer_at {ops : Array Oper} (h : noDefer ops = true) {i : Nat} {o : Oper} (hi : ops[i]? = some o) : ∀ c, o.op ≠ .defer c := fun c hc => by
  rw [← Array.getElem?_toList] at hi
  have h2 := List.all_eq_true.1 h o (List.mem_of_getElem? hi)
  rw [hc] at h2
  cases h2
theorem letsOut_only {Kq : Act → World → Prop} (h : LetsOut (onlyN Kq)) : False := by
  obtain ⟨_, _, h⟩ := h
  exact h

theorem op_round {P : Program} {o : Oper} {a : Act} {w : World} {K K' Kq : Act → World → Prop} {Q : Exit → Act → World → Prop} (l n : Nat) (hd : ∀ c, o.op ≠ .defer c) (hK : ∀ a w, K a w → K' a w) (h : o.wp P a w K (onlyN Kq)) : o.wpIn (Fence.wide.inRound l) n P a w K' Q := by
  refine ⟨fun _ _ => trivial, ?_⟩
  show o.uponIn (Fence.wide.inRound l) n P a K' Q ((o.semAt (some l) a.eval).run P w)
  rw [Oper.semAt_some l _ o hd]
  unfold Oper.wp at h
  generalize (execOp a.eval o).run P w = r at *
  cases r with
  | ok x w' =>
    cases x with
    | value v => exact hK _ _ h
    | skip => exact hK _ _ h
    | defer d => exact hK _ _ h
    | enter f args =>
      refine ⟨fun h => (by cases h), (CallsIn.inRound l ((callsIn_wide (n := n - 1)).2 h)).mono fun e w'' he => ?_⟩
      cases e with
      | returned v => exact hK _ _ he
      | panicked c => exact False.elim he
      | outgrown => exact (letsOut_only he).elim
    | row row args => exact ⟨fun h => (by cases h), fun c cs _ => let ⟨v, w', r, s⟩ := h c cs; ⟨v, w', hK _ _ r, stepsIn_wide.2 s⟩⟩
    | _ => exact False.elim h
  | halt x w' =>
    cases x with
    | panic v => exact False.elim h
    | _ => exact False.elim h

theorem any_round {P : Program} {md : Region.Mode} {ops : Array Oper} {Kq : Act → World → Prop} {Q : Exit → Act → World → Prop} (l n : Nat) (hd : noDefer ops = true) (hQ : ∀ a w, Kq a w → Q .normal a w) : ∀ (fuel : Nat) (listed : Array Bool) (a : Act) (w : World), wpAny P md ops (onlyN Kq) fuel listed a w → wpAnyIn (Fence.wide.inRound l) n P md ops Q fuel listed a w
  | 0, _, _, _, h => ⟨h.1, hQ _ _ h.2⟩
  | fuel + 1, listed, a, w, h => by
    refine ⟨fun e => hQ _ _ (h.1 e), fun i hi => ?_⟩
    have hx := h.2 i hi
    have ih := fun a' w' => any_round (P := P) (md := md) (ops := ops) l n hd hQ fuel (listed.setIfInBounds i true) a' w'
    unfold wpOp at hx
    unfold wpOpIn
    cases ho : ops[i]? with
    | none =>
      rw [ho] at hx
      exact ih _ _ hx
    | some o =>
      rw [ho] at hx
      dsimp only at hx ⊢
      split
      · rename_i hw
        rw [if_pos hw] at hx
        rcases hx with hx | ⟨_, hx⟩
        · exact op_round l n (noDefer_at hd ho) ih hx
        · exact (letsOut_only hx).elim
      · rename_i hw
        rw [if_neg hw] at hx
        exact ⟨fun _ _ => trivial, ih _ _ hx⟩

theorem region_round {P : Program} {ops : Array Oper} {S : World → Prop} {Q : Exit → Act → World → Prop} {id l n : Nat} {a : Act} {w : World} (hm : P.follows .mixedOrders = true) (hd : noDefer ops = true) (hS : S w.drew)
    (h : S w.drew → wpAnyH P .any ops (onlyN (fun a w => Q .normal a w)) S ops.size (Array.replicate ops.size false) a w.drew) : (Code.region id ops true).wpIn (Fence.wide.inRound l) n P Q a w :=
  wpIn_region_any hm (any_round l n hd (fun _ _ h => h) _ _ _ _ (wpAny_of_held _ _ _ _ (h hS)))

/-- The same, where the temporaries behind the assignment are told by a function. -/
theorem rangeFunc_at {F : Fence} {n : Nat} {P : Program} {α : Type} {g : Operand} {ps : Array Tmp} {assign body : Code} {Q : Exit → Act → World → Prop} {a : Act} {w : World}
    (hro : F.round = none) (h1 : 1 ≤ n) {gf : Nat} {lb : Array Value} (hg : a.eval g = .func (.func gf) #[] lb) (hFg : F.fn gf) (eg : ∀ args w, (callFunc gf args).run P w = .ok (.enter gf args) w)
    {encs : α → Array Value} {Mem : List α → α → World → Prop} {S : List α → Prop} {N B : Nat} (hseq : StopsM F (n - 1) P gf lb encs Mem S N B w)
    (hMem : ∀ (pre : List α) (x : α) (W : World) (l : Nat) (o o' : Obj), W.heap[l]? = some o → o.isCells = false → Mem pre x W → Mem pre x (W.putObj l o')) (hps : ∀ x, (encs x).size = ps.size)
    (I Ix : List α → World → Prop) (hI : NewOk w.heap.size I) (hIx : ∀ (s : List α) (W : World) (l : Nat) (o o' : Obj), w.heap.size ≤ l → W.heap[l]? = some o → o.isCells = false → Ix s W → Ix s (W.putObj l o')) (h0 : I [] w) (f : Array Value → α → Array Value)
    (hassign : ∀ (l : Nat) (x : α) (W : World) (K : Act → World → Prop), K { tmps := f a.tmps x, defers := [] } W →
      assign.wpIn (F.inRound l) (n - 1 - 1) P (Exit.then K (fun _ _ _ => False)) { tmps := (ps.zip (encs x)).foldl (fun t (p, v) => t.setIfInBounds p v) a.tmps, defers := [] } W)
    (hbody : ∀ (l : Nat) (pre : List α) (x : α) (W : World), I pre W → Mem pre x W → pre.length < N → body.wpIn (F.inRound l) (n - 1 - 1) P (endsM B I Ix (pre ++ [x]) W) { tmps := f a.tmps x, defers := [] } W)
    (hdone : ∀ (D : Nat) (xs : List α) (W : World), w.heap.size ≤ D → S xs → I xs W → W.heap[D]? = some (.deferred (some [])) → Q .normal { a with defers := { target := .collected D, args := #[] } :: a.defers } W)
    (hstop : ∀ (D : Nat) (pre : List α) (W : World), w.heap.size ≤ D → Ix pre W → W.heap[D]? = some (.deferred (some [])) → Code.ret.wpIn F n P Q { a with defers := { target := .collected D, args := #[] } :: a.defers } W) :
    (Code.rangeFunc g ps assign body).wpIn F n P Q a w :=
  rangeFunc_mem hro h1 hg hFg eg hseq hMem hps I Ix hI hIx h0 (fun x => { tmps := f a.tmps x, defers := [] }) hassign hbody hdone hstop

end Go.Proofs.Ytnlagiopmkjmlaa
