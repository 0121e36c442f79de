/- Merged texts: a claim has a limit of files. -/
import Derived.Test.YteafeecndghapaaGreatMg17
import Derived.Test.YteafeecndghapaaGreatConfB
import Derived.Test.YteafeecndghapaaGreatMg13

/- Plain theory of completion: what is connected below a word by rules and open equations stays so while a turn is made; where no equation is open, each critical pair is connected. No walk, no condition. -/
namespace Go.Proofs.YteafeecndghapaaGreat
open Go.RowKit Go.Shelf

/-- An equation turned round in a word. -/
def EqS (E : RL) (y z : WL) : Prop := ∃ a b q, q ∈ E ∧ ((y = a ++ q.1 ++ b ∧ z = a ++ q.2 ++ b) ∨ (z = a ++ q.1 ++ b ∧ y = a ++ q.2 ++ b))
/-- Connected below w by rules and equations. -/
inductive CE (R E : RL) (w : WL) : WL → WL → Prop
  | refl (x : WL) : CE R E w x x
  | fwd {x y z : WL} : CE R E w x y → Red R y z → Prec y w → CE R E w x z
  | bwd {x y z : WL} : CE R E w x y → Red R z y → Prec z w → CE R E w x z
  | eqn {x y z : WL} : CE R E w x y → EqS E y z → Prec y w → Prec z w → CE R E w x z
variable {R E R' E' : RL} {w x y z : WL}
theorem EqS.symm (h : EqS E y z) : EqS E z y := by
  obtain ⟨a, b, q, hq, h⟩ := h
  exact ⟨a, b, q, hq, h.symm⟩
theorem CE.trans (h : CE R E w x y) (k : CE R E w y z) : CE R E w x z := by
  induction k with
  | refl => exact h
  | fwd _ a b ih => exact .fwd ih a b
  | bwd _ a b ih => exact .bwd ih a b
  | eqn _ a b c ih => exact .eqn ih a b c
theorem CE.symm (h : CE R E w x y) : CE R E w y x := by
  induction h with
  | refl => exact .refl _
  | fwd _ a b ih => exact CE.trans (.bwd (.refl _) a b) ih
  | bwd _ a b ih => exact CE.trans (.fwd (.refl _) a b) ih
  | eqn _ a b c ih => exact CE.trans (.eqn (.refl _) a.symm c b) ih
theorem CE.star (hF : Falls R) (h : Star R x y) (hx : Prec x w) : CE R E w x y := by
  induction h with
  | refl => exact .refl _
  | step a _ ih => exact CE.trans (.fwd (.refl _) a hx) (ih ((a.prec hF).trans hx))
/-- What each step and each equation becomes, the chain becomes. -/
theorem CE.map (h : CE R E w x y) (hR : ∀ u v, Red R u v → Prec u w → CE R' E' w u v) (hE : ∀ u v, EqS E u v → Prec u w → Prec v w → CE R' E' w u v) : CE R' E' w x y := by
  induction h with
  | refl => exact .refl _
  | fwd _ a b ih => exact ih.trans (hR _ _ a b)
  | bwd _ a b ih => exact ih.trans (hR _ _ a b).symm
  | eqn _ a b c ih => exact ih.trans (hE _ _ a b c)
theorem CE.cb (h : CE R [] w x y) : CB R w x y := by
  induction h with
  | refl => exact .refl _
  | fwd _ a b ih => exact .fwd ih a b
  | bwd _ a b ih => exact .bwd ih a b
  | eqn _ a _ _ _ => obtain ⟨_, _, _, hq, _⟩ := a; cases hq
/-- Both sides of each critical pair are connected below its word by rules and equations. -/
structure CritE (R E : RL) : Prop where
  ins : ∀ q ∈ R, ∀ p ∈ R, ∀ x z, q.1 = x ++ p.1 ++ z → CE R E q.1 q.2 (x ++ p.2 ++ z)
  acr : ∀ q ∈ R, ∀ p ∈ R, ∀ x y z, x ≠ [] → y ≠ [] → z ≠ [] → q.1 = x ++ y → p.1 = y ++ z → CE R E (x ++ y ++ z) (q.2 ++ z) (x ++ p.2)
theorem CritE.crit (h : CritE R []) : Crit R :=
  ⟨fun q hq p hp x z e => (h.ins q hq p hp x z e).cb, fun q hq p hp x y z a b c e f => (h.acr q hq p hp x y z a b c e f).cb⟩
theorem critE_nil (E : RL) : CritE [] E := ⟨fun q hq => (by cases hq), fun q hq => (by cases hq)⟩
/-- An equation whose sides have one reduced form is left out. -/
theorem CritE.drop {q : WL × WL} {a : WL} (hF : Falls R) (h : CritE R (q :: E)) (h1 : Star R q.1 a) (h2 : Star R q.2 a) : CritE R E := by
  have key : ∀ w x y, CE R (q :: E) w x y → CE R E w x y := fun w x y hc => hc.map (fun u v hr hp => .fwd (.refl _) hr hp) fun u v he hu hv => by
    obtain ⟨c, d, p, hp, he⟩ := he
    rcases List.mem_cons.1 hp with rfl | hp
    · rcases he with ⟨rfl, rfl⟩ | ⟨rfl, rfl⟩
      · exact (CE.star hF (h1.ctx c d) hu).trans (CE.star hF (h2.ctx c d) hv).symm
      · exact (CE.star hF (h2.ctx c d) hu).trans (CE.star hF (h1.ctx c d) hv).symm
    · exact .eqn (.refl _) ⟨c, d, p, hp, he⟩ hu hv
  exact ⟨fun q' hq p hp x z e => key _ _ _ (h.ins q' hq p hp x z e), fun q' hq p hp x y z a b c e f => key _ _ _ (h.acr q' hq p hp x y z a b c e f)⟩

/-- A turn that adds a rule: the rules that stay (their right sides reduced), the new rule, the rules that go among the equations. -/
structure Turn (R R' E E' : RL) (q r : WL × WL) (K O : RL) (nf : WL → WL) : Prop where
  falls : Falls R
  falls' : Falls R'
  fallsO : Falls O
  out : ∀ p, p ∈ O ↔ p ∈ K ∨ p = r
  kept : ∀ p, p ∈ K → p ∈ R
  gone : ∀ p ∈ R, p ∈ K ∨ p ∈ E'
  new : ∀ p, p ∈ R' ↔ (∃ k ∈ K, p = (k.1, nf k.2)) ∨ p = r
  norm : ∀ k ∈ K, Star O k.2 (nf k.2)
  rest : ∀ p ∈ E, p ∈ E'
  one : ∃ a b, Star R q.1 a ∧ Star R q.2 b ∧ (r = (a, b) ∨ r = (b, a))
  ins : ∀ q ∈ R', ∀ p ∈ R', q = r ∨ p = r → ∀ x z, q.1 = x ++ p.1 ++ z → CE R' E' q.1 q.2 (x ++ p.2 ++ z)
  acr : ∀ q ∈ R', ∀ p ∈ R', q = r ∨ p = r → ∀ x y z, x ≠ [] → y ≠ [] → z ≠ [] → q.1 = x ++ y → p.1 = y ++ z → CE R' E' (x ++ y ++ z) (q.2 ++ z) (x ++ p.2)
theorem star_ce {O : RL} (hF : Falls O) (hO : ∀ u v, Prec u w → Red O u v → CE R' E' w u v) (h : Star O x y) (hx : Prec x w) : CE R' E' w x y := by
  induction h with
  | refl => exact .refl _
  | step a _ ih => exact (hO _ _ hx a).trans (ih ((a.prec hF).trans hx))
/-- A step by the rules before their right sides were reduced. -/
theorem Turn.outS {q r : WL × WL} {K O : RL} {nf : WL → WL} (h : Turn R R' E E' q r K O nf) : ∀ (n : Nat) (u v : WL), V4 1 u ≤ n → Prec u w → Red O u v → CE R' E' w u v := by
  intro n
  induction n with
  | zero => intro u v hn; have := V4_pos (Nat.le_refl 1) u; omega
  | succ n ih =>
    intro u v hn hu hr
    obtain ⟨c, d, p, hp, rfl, rfl⟩ := hr
    rcases (h.out p).1 hp with hk | rfl
    · have h1 : Red R' (c ++ p.1 ++ d) (c ++ nf p.2 ++ d) := ⟨c, d, (p.1, nf p.2), (h.new _).2 (.inl ⟨p, hk, rfl⟩), rfl, rfl⟩
      have hlt : Prec (c ++ p.2 ++ d) (c ++ p.1 ++ d) := (h.fallsO p hp).ctx c d
      have hst := (h.norm p hk).ctx c d
      have key : ∀ x y, Star O x y → Prec x (c ++ p.1 ++ d) → CE R' E' w x y := by
        intro x y hs
        induction hs with
        | refl => intro _; exact .refl _
        | step a _ ih2 =>
          intro hx
          exact (ih _ _ (by have := hx.val; omega) (hx.trans hu) a).trans (ih2 ((a.prec h.fallsO).trans hx))
      exact (CE.fwd (.refl _) h1 hu).trans (key _ _ hst hlt).symm
    · exact .fwd (.refl _) ⟨c, d, p, (h.new _).2 (.inr rfl), rfl, rfl⟩ hu
theorem Turn.red {q r : WL × WL} {K O : RL} {nf : WL → WL} (h : Turn R R' E E' q r K O nf) {u v : WL} (hr : Red R u v) (hu : Prec u w) : CE R' E' w u v := by
  obtain ⟨c, d, p, hp, rfl, rfl⟩ := hr
  rcases h.gone p hp with hk | he
  · exact h.outS _ _ _ (Nat.le_refl _) hu ⟨c, d, p, (h.out p).2 (.inl hk), rfl, rfl⟩
  · exact .eqn (.refl _) ⟨c, d, p, he, .inl ⟨rfl, rfl⟩⟩ hu (((h.falls p hp).ctx c d).trans hu)
theorem Turn.conv {q r : WL × WL} {K O : RL} {nf : WL → WL} (h : Turn R R' E E' q r K O nf) (hc : CE R (q :: E) w x y) : CE R' E' w x y := by
  refine hc.map (fun u v hr hp => h.red hr hp) fun u v he hu hv => ?_
  obtain ⟨c, d, p, hp, he⟩ := he
  rcases List.mem_cons.1 hp with rfl | hp
  · obtain ⟨a, b, h1, h2, h3⟩ := h.one
    have hr : r ∈ R' := (h.new r).2 (.inr rfl)
    have sa : ∀ {u}, u = c ++ p.1 ++ d → Prec u w → CE R' E' w u (c ++ a ++ d) := fun e hu => by subst e; exact star_ce h.falls (fun _ _ hp hr => h.red hr hp) (h1.ctx c d) hu
    have sb : ∀ {u}, u = c ++ p.2 ++ d → Prec u w → CE R' E' w u (c ++ b ++ d) := fun e hu => by subst e; exact star_ce h.falls (fun _ _ hp hr => h.red hr hp) (h2.ctx c d) hu
    have pre : ∀ {s t : WL}, Star R s t → Prec (c ++ s ++ d) w → Prec (c ++ t ++ d) w := fun hs hp => by
      have := hs.ctx c d
      clear hs
      generalize c ++ _ ++ d = s' at this hp
      generalize c ++ _ ++ d = t' at this ⊢
      induction this with
      | refl => exact hp
      | step a _ ih => exact ih ((a.prec h.falls).trans hp)
    have mid : Prec (c ++ a ++ d) w → Prec (c ++ b ++ d) w → CE R' E' w (c ++ a ++ d) (c ++ b ++ d) := fun ha hb => by
      rcases h3 with rfl | rfl
      · exact .fwd (.refl _) ⟨c, d, _, hr, rfl, rfl⟩ ha
      · exact .bwd (.refl _) ⟨c, d, _, hr, rfl, rfl⟩ hb
    rcases he with ⟨e1, e2⟩ | ⟨e1, e2⟩
    · have ha := pre h1 (e1 ▸ hu)
      have hb := pre h2 (e2 ▸ hv)
      exact ((sa e1 hu).trans (mid ha hb)).trans (sb e2 hv).symm
    · have ha := pre h1 (e1 ▸ hv)
      have hb := pre h2 (e2 ▸ hu)
      exact ((sb e2 hu).trans (mid ha hb).symm).trans (sa e1 hv).symm
  · exact .eqn (.refl _) ⟨c, d, p, h.rest p hp, he⟩ hu hv
/-- A turn keeps what is known of critical pairs. -/
theorem Turn.crit {q r : WL × WL} {K O : RL} {nf : WL → WL} (h : Turn R R' E E' q r K O nf) (hc : CritE R (q :: E)) : CritE R' E' := by
  have nfs : ∀ k ∈ K, ∀ c d w, Prec (c ++ k.2 ++ d) w → CE R' E' w (c ++ k.2 ++ d) (c ++ nf k.2 ++ d) := fun k hk c d w hp =>
    star_ce h.fallsO (fun u v hu hr => h.outS _ _ _ (Nat.le_refl _) hu hr) ((h.norm k hk).ctx c d) hp
  constructor
  · intro p hp p' hp' x z e
    by_cases hr : p = r ∨ p' = r
    · exact h.ins p hp p' hp' hr x z e
    · rcases (h.new p).1 hp with ⟨k, hk, rfl⟩ | rfl
      · rcases (h.new p').1 hp' with ⟨k', hk', rfl⟩ | rfl
        · dsimp only at e ⊢
          have c1 := h.conv (hc.ins k (h.kept k hk) k' (h.kept k' hk') x z e)
          have p1 : Prec k.2 k.1 := h.falls k (h.kept k hk)
          have p2 : Prec (x ++ k'.2 ++ z) k.1 := by rw [e]; exact (h.falls k' (h.kept k' hk')).ctx x z
          have n1 := nfs k hk [] [] k.1 (by simpa using p1)
          rw [List.nil_append, List.append_nil, List.nil_append, List.append_nil] at n1
          exact (n1.symm.trans c1).trans (nfs k' hk' x z k.1 p2)
        · exact absurd (Or.inr rfl) hr
      · exact absurd (Or.inl rfl) hr
  · intro p hp p' hp' x y z hx hy hz e f
    by_cases hr : p = r ∨ p' = r
    · exact h.acr p hp p' hp' hr x y z hx hy hz e f
    · rcases (h.new p).1 hp with ⟨k, hk, rfl⟩ | rfl
      · rcases (h.new p').1 hp' with ⟨k', hk', rfl⟩ | rfl
        · dsimp only at e f ⊢
          have c1 := h.conv (hc.acr k (h.kept k hk) k' (h.kept k' hk') x y z hx hy hz e f)
          have p1 : Prec ([] ++ k.2 ++ z) (x ++ y ++ z) := by
            have := (h.falls k (h.kept k hk)).ctx [] z
            rw [e] at this
            exact this
          have p2 : Prec (x ++ k'.2 ++ []) (x ++ y ++ z) := by
            have := (h.falls k' (h.kept k' hk')).ctx x []
            rw [f] at this
            simpa [List.append_assoc] using this
          have n1 := nfs k hk [] z _ p1
          have n2 := nfs k' hk' x [] _ p2
          rw [List.nil_append, List.nil_append] at n1
          rw [List.append_nil, List.append_nil] at n2
          exact (n1.symm.trans c1).trans n2
        · exact absurd (Or.inr rfl) hr
      · exact absurd (Or.inl rfl) hr

end Go.Proofs.YteafeecndghapaaGreat

/- The theory of completion joined to the program's words: a turn keeps what is known of critical pairs; where no equation is left, the system is complete. No walk, no condition. -/
namespace Go.Proofs.YteafeecndghapaaGreat
open Go.RowKit Go.Shelf

/-- Whether the new rule's left side occurs in a rule's left side. -/
def gonB (r x : RuleT) : Bool := decide (0 < (pls x.1 r.1).length)
def goneL (rs : List RuleT) (r : RuleT) : List RuleT := rs.filter (gonB r)
def stayL (rs : List RuleT) (r : RuleT) : List RuleT := rs.filter fun x => !gonB r x
/-- What l04Trace leads to, whether the rules are in order or not. -/
def tr6 (l : Int) (rs : List RuleT) (s : ByteArray) : ByteArray := if rulesOk l rs then normS rs s else s
def insL (l : Int) (rs : List RuleT) (r : RuleT) : List RuleT := (stayL rs r).map (fun x => (x.1, tr6 l (stayL rs r ++ [r]) x.2)) ++ [r]
def lastP (rs : List RuleT) (p : PairT) : Bool := decide (p.2.1 = (rs.length : Int) - 1) || decide (p.2.2.2.1 = (rs.length : Int) - 1)
def pairR (l : Int) (rs : List RuleT) (p : PairT) : RuleT := (sideS l rs p.1 (p.2.1, p.2.2.1) (p.2.2.2.1, p.2.2.2.2) (p.2.1, p.2.2.1), sideS l rs p.1 (p.2.1, p.2.2.1) (p.2.2.2.1, p.2.2.2.2) (p.2.2.2.1, p.2.2.2.2))
def pairsQ (l : Int) (rs : List RuleT) : List RuleT := ((prAll l rs).filter (lastP rs)).map (pairR l rs)
def newR (a b : ByteArray) : RuleT := if lessW a b then (b, a) else (a, b)
/-- A turn that ends well. -/
def TurnP (l : Int) (rs q : List RuleT) (t : Int) (rs' q' : List RuleT) (t' : Int) : Prop :=
  systemOk l rs = true ∧ (∀ x ∈ q, wordOk l x.1 = true ∧ wordOk l x.2 = true) ∧ t' = t + 1 ∧ t < 200 ∧ ∃ h tl, q = h :: tl ∧
    ((normS rs h.1 = normS rs h.2 ∧ rs' = rs ∧ q' = tl) ∨
      (normS rs h.1 ≠ normS rs h.2 ∧ (newR (normS rs h.1) (normS rs h.2)).1.size ≤ 8 ∧ rs' = insL l rs (newR (normS rs h.1) (normS rs h.2)) ∧ rs'.length ≤ 12 ∧ q' = tl ++ goneL rs (newR (normS rs h.1) (normS rs h.2)) ++ pairsQ l rs'))

def mkB (l : WL) : ByteArray := ⟨l.toArray⟩
theorem mkB_of (s : ByteArray) : mkB s.data.toList = s := by
  unfold mkB
  cases s
  simp
theorem less_of_val {k : Int} {u v : ByteArray} (hu : wordOk k u = true) (hv : wordOk k v = true) (h : val4 u < val4 v) : lessW u v = true := by
  cases e : lessW u v with
  | true => rfl
  | false =>
    cases e2 : lessW v u with
    | true =>
      have := less_V4 (a := 1) (Nat.le_refl _) (wordOk_out hv).2.1 (wordOk_out hv).2.2.2 (wordOk_out hu).2.2.2 e2
      unfold val4 at h
      omega
    | false => rw [lessW_total u v e e2] at h; omega
theorem rl_app (a b : List RuleT) : rl (a ++ b) = rl a ++ rl b := by unfold rl; rw [List.map_append]
theorem rl_of {rs : List RuleT} {x : RuleT} (h : x ∈ rs) : (x.1.data.toList, x.2.data.toList) ∈ rl rs := List.mem_map.2 ⟨x, h, rfl⟩
theorem rl_sub {a b : List RuleT} (h : ∀ x ∈ a, x ∈ b) : ∀ p ∈ rl a, p ∈ rl b := fun p hp => by
  obtain ⟨x, hx, rfl⟩ := List.mem_map.1 hp
  exact rl_of (h x hx)
/-- What a rule of an ordered system tells, by membership. -/
theorem sys_mem {l : Int} {rs : List RuleT} (h : systemOk l rs = true) {x : RuleT} (hx : x ∈ rs) : wordOk l x.1 = true ∧ wordOk l x.2 = true ∧ x.1.size ≤ 8 ∧ x.2.size ≤ 8 ∧ x.1.toList.isEmpty = false ∧ lessW x.2 x.1 = true := by
  unfold systemOk rulesOk at h
  simp only [Bool.and_eq_true] at h
  have h1 := List.all_eq_true.1 h.1.2 x hx
  have h2 := List.all_eq_true.1 h.2 x hx
  unfold ruleOk sidesOk at h1
  simp only [Bool.and_eq_true, decide_eq_true_eq, Bool.not_eq_true'] at h1
  exact ⟨h1.1.1.1.1, h1.1.1.1.2, h1.1.1.2, h1.1.2, h1.2, h2⟩
theorem sys_mk {l : Int} {rs : List RuleT} (h1 : 1 ≤ l) (h4 : l ≤ 4) (hl : rs.length ≤ 12) (h : ∀ x ∈ rs, wordOk l x.1 = true ∧ wordOk l x.2 = true ∧ x.1.size ≤ 8 ∧ x.2.size ≤ 8 ∧ x.1.toList.isEmpty = false ∧ lessW x.2 x.1 = true) : systemOk l rs = true := by
  unfold systemOk rulesOk
  simp only [Bool.and_eq_true, List.all_eq_true]
  refine ⟨⟨⟨?_, by simpa using hl⟩, fun x hx => ?_⟩, fun x hx => (h x hx).2.2.2.2.2⟩
  · unfold inB; simp only [Bool.and_eq_true, decide_eq_true_eq]; exact ⟨h1, h4⟩
  · obtain ⟨a, b, c, d, e, -⟩ := h x hx
    unfold ruleOk sidesOk
    rw [a, b, e, decide_eq_true c, decide_eq_true d]
    rfl
theorem new_rule {l : Int} {a b : ByteArray} (ha : wordOk l a = true) (hb : wordOk l b = true) (hne : a ≠ b) (h8 : (newR a b).1.size ≤ 8) : wordOk l (newR a b).1 = true ∧ wordOk l (newR a b).2 = true ∧ (newR a b).1.size ≤ 8 ∧ (newR a b).2.size ≤ 8 ∧ (newR a b).1.toList.isEmpty = false ∧ lessW (newR a b).2 (newR a b).1 = true := by
  have key : ∀ u v : ByteArray, lessW v u = true → v.size ≤ u.size ∧ u.toList.isEmpty = false := fun u v h => by
    have hsz : v.size ≤ u.size := by
      unfold lessW at h
      split at h
      · omega
      · have := of_decide_eq_true h; omega
    refine ⟨hsz, ?_⟩
    cases he : u.toList.isEmpty with
    | false => rfl
    | true =>
      have h0 : u.toList = [] := by simpa using he
      have h00 : u.size = 0 := by rw [← bytes_len, ← ByteArray.toList_eq, h0]; rfl
      unfold lessW at h
      rw [if_pos (by omega), h0] at h
      cases hv : v.toList with
      | nil => rw [hv] at h; simp [Op.bytesLess] at h
      | cons y ys =>
        have := bytes_len v
        rw [← ByteArray.toList_eq, hv] at this
        simp at this
        omega
  unfold newR at h8 ⊢
  cases hl : lessW a b with
  | true =>
    rw [hl, if_pos rfl] at h8
    rw [if_pos rfl]
    obtain ⟨k1, k2⟩ := key b a hl
    dsimp only at h8 ⊢
    exact ⟨hb, ha, h8, by omega, k2, hl⟩
  | false =>
    rw [hl, if_neg (by simp)] at h8
    rw [if_neg (by simp)]
    have hlt : lessW b a = true := by
      cases h2 : lessW b a with
      | true => rfl
      | false => exact absurd (lessW_total a b hl h2) hne
    obtain ⟨k1, k2⟩ := key a b hlt
    dsimp only at h8 ⊢
    exact ⟨ha, hb, h8, by omega, k2, hlt⟩
/-- The rules that stay and the new one: where they are in order at all they are an ordered system. -/
theorem out_sys {l : Int} {rs : List RuleT} {r : RuleT} (hsy : systemOk l rs = true) (hr : wordOk l r.1 = true ∧ wordOk l r.2 = true ∧ r.1.size ≤ 8 ∧ r.2.size ≤ 8 ∧ r.1.toList.isEmpty = false ∧ lessW r.2 r.1 = true) (ho : rulesOk l (stayL rs r ++ [r]) = true) : systemOk l (stayL rs r ++ [r]) = true := by
  obtain ⟨h1, h4, -⟩ := sys_in hsy
  refine sys_mk h1 h4 (rulesOk_12 ho) fun x hx => ?_
  rcases List.mem_append.1 hx with hx | hx
  · exact sys_mem hsy (List.mem_filter.1 hx).1
  · rw [List.mem_singleton.1 hx]; exact hr
theorem tr6_out {l : Int} {rs : List RuleT} {r : RuleT} {s : ByteArray} (hsy : systemOk l rs = true) (hr : wordOk l r.1 = true ∧ wordOk l r.2 = true ∧ r.1.size ≤ 8 ∧ r.2.size ≤ 8 ∧ r.1.toList.isEmpty = false ∧ lessW r.2 r.1 = true) (hs : wordOk l s = true) :
    wordOk l (tr6 l (stayL rs r ++ [r]) s) = true ∧ val4 (tr6 l (stayL rs r ++ [r]) s) ≤ val4 s ∧ (tr6 l (stayL rs r ++ [r]) s).size ≤ s.size ∧ Star (rl (stayL rs r ++ [r])) s.data.toList (tr6 l (stayL rs r ++ [r]) s).data.toList := by
  unfold tr6
  split
  · next ho =>
    have hy := out_sys hsy hr ho
    obtain ⟨a, -, c, d⟩ := norm_good hy hs
    refine ⟨a, ?_, c, norm_star hy hs⟩
    rcases d with ⟨-, d, -⟩ | ⟨-, d, -⟩
    · rw [d]; exact Nat.le_refl _
    · omega
  · exact ⟨hs, Nat.le_refl _, Nat.le_refl _, .refl _⟩
theorem ins_sys {l : Int} {rs : List RuleT} {r : RuleT} (hsy : systemOk l rs = true) (hr : wordOk l r.1 = true ∧ wordOk l r.2 = true ∧ r.1.size ≤ 8 ∧ r.2.size ≤ 8 ∧ r.1.toList.isEmpty = false ∧ lessW r.2 r.1 = true) (hl : (insL l rs r).length ≤ 12) : systemOk l (insL l rs r) = true := by
  obtain ⟨h1, h4, -⟩ := sys_in hsy
  refine sys_mk h1 h4 hl fun x hx => ?_
  unfold insL at hx
  rcases List.mem_append.1 hx with hx | hx
  · obtain ⟨y, hy, rfl⟩ := List.mem_map.1 hx
    obtain ⟨a, b, c, d, e, f⟩ := sys_mem hsy (List.mem_filter.1 hy).1
    obtain ⟨t1, t2, t3, -⟩ := tr6_out hsy hr b
    dsimp only
    have hv := less_V4 (a := 1) (Nat.le_refl _) (wordOk_out b).2.1 (wordOk_out b).2.2.2 (wordOk_out a).2.2.2 f
    refine ⟨a, t1, c, by omega, e, less_of_val t1 a ?_⟩
    unfold val4 at t2 ⊢
    omega
  · rw [List.mem_singleton.1 hx]; exact hr
/-- A step that is known in parts is one of those of the word. -/
theorem as_parts {l : Int} {rs : List RuleT} (hsy : systemOk l rs = true) {s : ByteArray} {k : Nat} (hk : k < rs.length) (hs : s.size ≤ 16) {a b : WL} (h : s.data.toList = a ++ (ruleAt rs k).1.data.toList ++ b) : asOk l rs s ((k : Int), (a.length : Int)) = true ∧ asS l rs s ((k : Int), (a.length : Int)) = applyS rs s ((k : Int), (a.length : Int)) := by
  have hro := sys_rules hsy
  have h0 := step_in hk (left_ne hro hk) h
  have hm : ((k : Int), (a.length : Int)) ∈ stepsOf l rs s := by unfold stepsOf; rw [if_pos hro]; exact h0
  obtain ⟨e1, e2⟩ := as_yes hm
  refine ⟨?_, e2⟩
  rw [e1]
  have h1 := bytes_len s
  rw [h, List.length_append, List.length_append, bytes_len] at h1
  have h2 := right_le hsy hk
  unfold applyOk
  dsimp only
  rw [Int.toNat_natCast]
  exact repl_ok (by omega) (by omega)

end Go.Proofs.YteafeecndghapaaGreat
