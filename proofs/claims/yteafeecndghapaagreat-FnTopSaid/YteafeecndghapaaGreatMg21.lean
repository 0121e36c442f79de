/- Merged texts: a claim has a limit of files. -/
import Derived.Test.YteafeecndghapaaGreatMg20
import Derived.Test.YteafeecndghapaaGreatMg18

/- A turn of the completion keeps what is known of critical pairs; where each is connected, the program finds the system complete. No walk, no condition. -/
namespace Go.Proofs.YteafeecndghapaaGreat
open Go.RowKit Go.Shelf

variable {l : Int} {rs : List RuleT}
/-- The sides of a pair that is known in parts. -/
theorem inP_sides (hsy : systemOk l rs = true) {i j : Nat} (hi : i < rs.length) (hj : j < rs.length) {x z : WL} (e : (ruleAt rs i).1.data.toList = x ++ (ruleAt rs j).1.data.toList ++ z) (hij : i ≠ j) :
    inP (ruleAt rs i).1 i j x.length ∈ prAll l rs ∧ (pairR l rs (inP (ruleAt rs i).1 i j x.length)).1.data.toList = (ruleAt rs i).2.data.toList ∧ (pairR l rs (inP (ruleAt rs i).1 i j x.length)).2.data.toList = x ++ (ruleAt rs j).2.data.toList ++ z := by
  obtain ⟨-, g1, -, -, -, -⟩ := sys_rule hsy hi
  have hm : inP (ruleAt rs i).1 i j x.length ∈ prCell rs i j := by
    unfold prCell insideL
    rw [if_neg hij, List.mem_append]
    exact .inl (List.mem_map.2 ⟨_, pls_has e, rfl⟩)
  have e0 : (((([] : WL).length : Nat)) : Int) = 0 := rfl
  have p1 : (ruleAt rs i).1.data.toList = [] ++ (ruleAt rs i).1.data.toList ++ [] := by rw [List.nil_append, List.append_nil]
  obtain ⟨a1, a2⟩ := as_parts hsy (s := (ruleAt rs i).1) hi (by omega) p1
  obtain ⟨b1, b2⟩ := as_parts hsy (s := (ruleAt rs i).1) hj (by omega) e
  have a3 := apply_parts hsy (s := (ruleAt rs i).1) hi (by omega) p1
  have b3 := apply_parts hsy (s := (ruleAt rs i).1) hj (by omega) e
  rw [e0] at a1 a2 a3
  rw [List.nil_append, List.append_nil] at a3
  have hok : pairOk l rs (ruleAt rs i).1 ((i : Int), 0) ((j : Int), (x.length : Int)) = true := by unfold pairOk; rw [hsy, a1, b1]; rfl
  refine ⟨by unfold prAll; rw [if_pos hsy]; exact pr_cell hi hj hm, ?_, ?_⟩
  · unfold pairR inP sideS
    dsimp only
    rw [if_pos hok, a2, a3]
  · unfold pairR inP sideS
    dsimp only
    rw [if_pos hok, b2, b3]
theorem acP_sides (hsy : systemOk l rs = true) {i j : Nat} (hi : i < rs.length) (hj : j < rs.length) {x y z : WL} (hx : x ≠ []) (hy : y ≠ []) (hz : z ≠ []) (e1 : (ruleAt rs i).1.data.toList = x ++ y) (e2 : (ruleAt rs j).1.data.toList = y ++ z) :
    acP (ruleAt rs i).1 (ruleAt rs j).1 i j y.length ∈ prAll l rs ∧ (pairR l rs (acP (ruleAt rs i).1 (ruleAt rs j).1 i j y.length)).1.data.toList = (ruleAt rs i).2.data.toList ++ z ∧ (pairR l rs (acP (ruleAt rs i).1 (ruleAt rs j).1 i j y.length)).2.data.toList = x ++ (ruleAt rs j).2.data.toList := by
  obtain ⟨-, g1, -, -, -, -⟩ := sys_rule hsy hi
  obtain ⟨-, g2, -, -, -, -⟩ := sys_rule hsy hj
  have l1 := bytes_len (ruleAt rs i).1
  have l2 := bytes_len (ruleAt rs j).1
  rw [e1, List.length_append] at l1
  rw [e2, List.length_append] at l2
  have hm : acP (ruleAt rs i).1 (ruleAt rs j).1 i j y.length ∈ prCell rs i j := by
    unfold prCell acrossL
    rw [List.mem_append]
    exact .inr (List.mem_map.2 ⟨_, ovs_has hx hy hz e1 e2, rfl⟩)
  obtain ⟨W, hW⟩ : ∃ W, W = (ruleAt rs i).1 ++ (ruleAt rs j).1.extract y.length (ruleAt rs j).1.size := ⟨_, rfl⟩
  have hWd : W.data.toList = x ++ y ++ z := by
    rw [hW, ByteArray.data_append, Array.toList_append, drop_extract, e1, e2, List.drop_left]
  have hWs : W.size ≤ 16 := by
    rw [← bytes_len, hWd, List.length_append, List.length_append]
    omega
  have p1 : W.data.toList = [] ++ (ruleAt rs i).1.data.toList ++ z := by rw [hWd, e1, List.nil_append]
  have p2 : W.data.toList = x ++ (ruleAt rs j).1.data.toList ++ [] := by rw [hWd, e2, List.append_nil, List.append_assoc]
  have e0 : (((([] : WL).length : Nat)) : Int) = 0 := rfl
  have e3 : (((ruleAt rs i).1.size : Nat) : Int) - (y.length : Nat) = (x.length : Nat) := by omega
  obtain ⟨a1, a2⟩ := as_parts hsy (s := W) hi hWs p1
  obtain ⟨b1, b2⟩ := as_parts hsy (s := W) hj hWs p2
  have a3 := apply_parts hsy (s := W) hi hWs p1
  have b3 := apply_parts hsy (s := W) hj hWs p2
  rw [e0] at a1 a2 a3
  rw [List.nil_append] at a3
  rw [List.append_nil] at b3
  have hok : pairOk l rs W ((i : Int), 0) ((j : Int), (x.length : Int)) = true := by unfold pairOk; rw [hsy, a1, b1]; rfl
  refine ⟨by unfold prAll; rw [if_pos hsy]; exact pr_cell hi hj hm, ?_, ?_⟩
  · unfold pairR acP sideS
    dsimp only
    rw [Int.toNat_natCast, ← hW, e3, if_pos hok, a2, a3]
  · unfold pairR acP sideS
    dsimp only
    rw [Int.toNat_natCast, ← hW, e3, if_pos hok, b2, b3]
theorem rl_at {p : WL × WL} (h : p ∈ rl rs) : ∃ k, k < rs.length ∧ p = ((ruleAt rs k).1.data.toList, (ruleAt rs k).2.data.toList) := rl_mem h
theorem last_rule {ks : List RuleT} {r : RuleT} : ruleAt (ks ++ [r]) ks.length = r := by
  rw [ruleAt_get (by rw [List.length_append]; simp)]
  simp
/-- A turn keeps what is known. -/
theorem turn_crit {q rs' q' : List RuleT} {t t' : Int} (h : TurnP l rs q t rs' q' t') (hc : CritE (rl rs) (rl q)) : systemOk l rs' = true ∧ CritE (rl rs') (rl q') := by
  obtain ⟨hsy, hw, -, -, hd, tl, rfl, h⟩ := h
  have hF := rl_falls hsy
  obtain ⟨w1, w2⟩ := hw hd List.mem_cons_self
  have s1 := norm_star hsy w1
  have s2 := norm_star hsy w2
  have hq : rl (hd :: tl) = (hd.1.data.toList, hd.2.data.toList) :: rl tl := rfl
  rw [hq] at hc
  rcases h with ⟨he, rfl, rfl⟩ | ⟨hne, h8, hrs, hlen, hq'⟩
  · rw [← he] at s2
    exact ⟨hsy, CritE.drop hF hc s1 s2⟩
  · have ha := (norm_good hsy w1).1
    have hb := (norm_good hsy w2).1
    have hr := new_rule ha hb hne h8
    obtain ⟨r, hrr⟩ : ∃ r, r = newR (normS rs hd.1) (normS rs hd.2) := ⟨_, rfl⟩
    rw [← hrr] at hr hrs hq' h8
    have hsy' : systemOk l rs' = true := by rw [hrs] at hlen ⊢; exact ins_sys hsy hr hlen
    refine ⟨hsy', ?_⟩
    have hn : rs'.length = (stayL rs r).length + 1 := by rw [hrs]; unfold insL; rw [List.length_append, List.length_map]; rfl
    have hlast : ruleAt rs' (stayL rs r).length = r := by
      rw [hrs]; unfold insL
      have := last_rule (ks := (stayL rs r).map (fun x => (x.1, tr6 l (stayL rs r ++ [r]) x.2))) (r := r)
      rwa [List.length_map] at this
    have eqs : ∀ p ∈ prAll l rs', lastP rs' p = true → ∀ u v, (pairR l rs' p).1.data.toList = u → (pairR l rs' p).2.data.toList = v → EqS (rl q') u v := fun p hp hl u v hu hv => by
      refine ⟨[], [], (u, v), ?_, .inl ⟨by simp, by simp⟩⟩
      rw [hq', ← hu, ← hv]
      refine rl_of (List.mem_append.2 (.inr ?_))
      unfold pairsQ
      exact List.mem_map.2 ⟨p, List.mem_filter.2 ⟨hp, hl⟩, rfl⟩
    have hF' := rl_falls hsy'
    have lp1 : ∀ i : Nat, i = (stayL rs r).length → ((i : Nat) : Int) = (rs'.length : Int) - 1 := fun i hi => by rw [hn]; omega
    -- the index of a rule of which one of two is the new one
    have idx : ∀ p ∈ rl rs', ∃ k, k < rs'.length ∧ p = ((ruleAt rs' k).1.data.toList, (ruleAt rs' k).2.data.toList) ∧ (p = (r.1.data.toList, r.2.data.toList) → k = (stayL rs r).length) := fun p hp => by
      by_cases e : p = (r.1.data.toList, r.2.data.toList)
      · exact ⟨(stayL rs r).length, by omega, by rw [hlast]; exact e, fun _ => rfl⟩
      · obtain ⟨k, hk, e2⟩ := rl_at hp
        exact ⟨k, hk, e2, fun e3 => absurd e3 e⟩
    have hT : Turn (rl rs) (rl rs') (rl tl) (rl q') (hd.1.data.toList, hd.2.data.toList) (r.1.data.toList, r.2.data.toList) (rl (stayL rs r)) (rl (stayL rs r ++ [r])) (fun s => (tr6 l (stayL rs r ++ [r]) (mkB s)).data.toList) := by
      constructor
      · exact hF
      · exact hF'
      · intro p hp
        obtain ⟨x, hx, rfl⟩ := List.mem_map.1 hp
        have hx2 : wordOk l x.1 = true ∧ wordOk l x.2 = true ∧ lessW x.2 x.1 = true := by
          rcases List.mem_append.1 hx with hx | hx
          · obtain ⟨a, b, -, -, -, f⟩ := sys_mem hsy (List.mem_filter.1 hx).1
            exact ⟨a, b, f⟩
          · rw [List.mem_singleton.1 hx]; exact ⟨hr.1, hr.2.1, hr.2.2.2.2.2⟩
        exact fun s hs => less_V4 hs (wordOk_out hx2.1).2.1 (wordOk_out hx2.2.1).2.2.2 (wordOk_out hx2.1).2.2.2 hx2.2.2
      · intro p
        rw [rl_app, List.mem_append]
        exact ⟨fun h => h.imp id (fun h => by simpa [rl] using h), fun h => h.imp id (fun h => by simpa [rl] using h)⟩
      · exact rl_sub (fun x hx => (List.mem_filter.1 hx).1)
      · intro p hp
        obtain ⟨x, hx, rfl⟩ := List.mem_map.1 hp
        cases hg : gonB r x with
        | true =>
          right
          rw [hq']
          exact rl_of (List.mem_append.2 (.inl (List.mem_append.2 (.inr (List.mem_filter.2 ⟨hx, hg⟩)))))
        | false =>
          left
          exact rl_of (List.mem_filter.2 ⟨hx, by rw [hg]; rfl⟩)
      · intro p
        rw [hrs]
        unfold insL
        rw [rl_app, List.mem_append]
        constructor
        · rintro (h | h)
          · obtain ⟨y, hy, rfl⟩ := List.mem_map.1 h
            obtain ⟨x, hx, rfl⟩ := List.mem_map.1 hy
            exact .inl ⟨_, rl_of hx, by dsimp only; rw [mkB_of]⟩
          · exact .inr (by simpa [rl] using h)
        · rintro (⟨k, hk, rfl⟩ | rfl)
          · obtain ⟨x, hx, rfl⟩ := List.mem_map.1 hk
            refine .inl (List.mem_map.2 ⟨_, List.mem_map.2 ⟨x, hx, rfl⟩, ?_⟩)
            dsimp only
            rw [mkB_of]
          · exact .inr (by simp [rl])
      · intro k hk
        obtain ⟨x, hx, rfl⟩ := List.mem_map.1 hk
        dsimp only
        rw [mkB_of]
        exact (tr6_out hsy hr (sys_mem hsy (List.mem_filter.1 hx).1).2.1).2.2.2
      · intro p hp
        refine rl_sub (fun x hx => ?_) p hp
        rw [hq']
        exact List.mem_append.2 (.inl (List.mem_append.2 (.inl hx)))
      · refine ⟨_, _, s1, s2, ?_⟩
        rw [hrr]
        unfold newR
        split
        · exact .inr rfl
        · exact .inl rfl
      · intro p hp p' hp' hor x z e
        obtain ⟨i, hi, e1, hil⟩ := idx p hp
        obtain ⟨j, hj, e2, hjl⟩ := idx p' hp'
        by_cases hij : i = j
        · subst hij
          have e3 : p = p' := by rw [e1, e2]
          subst e3
          have h1 := congrArg List.length e
          rw [List.length_append, List.length_append] at h1
          have hx : x = [] := List.eq_nil_of_length_eq_zero (by omega)
          have hz : z = [] := List.eq_nil_of_length_eq_zero (by omega)
          subst hx hz
          rw [List.nil_append, List.append_nil]
          exact .refl _
        · have pp1 : Prec p.2 p.1 := hF' p hp
          have pp2 : Prec (x ++ p'.2 ++ z) p.1 := by rw [e]; exact (hF' p' hp').ctx x z
          rw [e1, e2] at e pp2 ⊢
          rw [e1] at pp1
          dsimp only at e pp1 pp2 ⊢
          obtain ⟨m1, m2, m3⟩ := inP_sides hsy' hi hj e hij
          refine .eqn (.refl _) (eqs _ m1 ?_ _ _ m2 m3) pp1 pp2
          unfold lastP inP
          dsimp only
          rcases hor with h | h
          · rw [decide_eq_true (lp1 i (hil h))]; rfl
          · rw [decide_eq_true (lp1 j (hjl h)), Bool.or_true]
      · intro p hp p' hp' hor x y z hx hy hz e f
        obtain ⟨i, hi, e1, hil⟩ := idx p hp
        obtain ⟨j, hj, e2, hjl⟩ := idx p' hp'
        have pp1 : Prec (p.2 ++ z) (x ++ y ++ z) := by
          have := (hF' p hp).ctx [] z
          rw [e] at this
          simpa using this
        have pp2 : Prec (x ++ p'.2) (x ++ y ++ z) := by
          have := (hF' p' hp').ctx x []
          rw [f] at this
          simpa [List.append_assoc] using this
        rw [e1] at e pp1 ⊢
        rw [e2] at f pp2 ⊢
        dsimp only at e f pp1 pp2 ⊢
        obtain ⟨m1, m2, m3⟩ := acP_sides hsy' hi hj hx hy hz e f
        refine .eqn (.refl _) (eqs _ m1 ?_ _ _ m2 m3) pp1 pp2
        unfold lastP acP
        dsimp only
        rcases hor with h | h
        · rw [decide_eq_true (lp1 i (hil h))]; rfl
        · rw [decide_eq_true (lp1 j (hjl h)), Bool.or_true]
    exact hT.crit hc

end Go.Proofs.YteafeecndghapaaGreat

/- A system whose critical pairs are connected is complete in the program's words; parts can be reduced first. No walk, no condition. -/
namespace Go.Proofs.YteafeecndghapaaGreat
open Go.RowKit Go.Shelf

variable {l : Int} {rs : List RuleT}
theorem joined_of (hsy : systemOk l rs = true) (hC : Crit (rl rs)) {W : ByteArray} (hW : wordOk l W = true) {i j : Nat} (hi : i < rs.length) (hj : j < rs.length) {a b c d : WL} (h1 : W.data.toList = a ++ (ruleAt rs i).1.data.toList ++ b) (h2 : W.data.toList = c ++ (ruleAt rs j).1.data.toList ++ d) :
    joined l rs W (i : Int) (a.length : Int) (j : Int) (c.length : Int) = true := by
  have hro := sys_rules hsy
  have hs := (wordOk_out hW).2.2.1
  obtain ⟨p1, p2⟩ := as_parts hsy hi hs h1
  obtain ⟨q1, q2⟩ := as_parts hsy hj hs h2
  obtain ⟨m1, o1, -⟩ := as_out p1
  obtain ⟨m2, o2, -⟩ := as_out q1
  have w1 := (step_good hsy hW m1).2.1
  have w2 := (step_good hsy hW m2).2.1
  have r1 := step_red (l := l) m1 o1
  have r2 := step_red (l := l) m2 o2
  have hF := rl_falls hsy
  have e : normS rs (applyS rs W ((i : Int), (a.length : Int))) = normS rs (applyS rs W ((j : Int), (c.length : Int))) :=
    bytes_inj (by rw [norm_nfL hsy hC w1, norm_nfL hsy hC w2, ← conf hF hC r1, ← conf hF hC r2])
  unfold joined pairOk
  rw [hsy, p1, q1, p2, q2, takes_mk hsy w1, takes_mk hsy w2, nfS, nfS, if_pos (takes_mk hsy w1), if_pos (takes_mk hsy w2), e]
  simp
theorem pls_parts {s t : ByteArray} {q : Int} (h : q ∈ pls s t) : ∃ a b : WL, s.data.toList = a ++ t.data.toList ++ b ∧ q = (a.length : Int) := by
  unfold pls plc at h
  obtain ⟨i, hi, rfl⟩ := List.mem_map.1 h
  obtain ⟨h1, h2⟩ := List.mem_filter.1 hi
  have h3 := List.mem_range.1 h1
  have hh : hasAt s t i = true := by
    unfold hasAt
    unfold oc at h2
    rw [h2, decide_eq_true (by omega)]
    rfl
  obtain ⟨k1, k2⟩ := has_parts hh
  refine ⟨_, _, k2, ?_⟩
  rw [take_extract, List.length_take, bytes_len]
  omega
theorem ovs_parts {u v : ByteArray} {n : Int} (h : n ∈ ovs u v) : ∃ x y z : WL, u.data.toList = x ++ y ∧ v.data.toList = y ++ z ∧ n = (y.length : Int) := by
  unfold ovs ovl at h
  obtain ⟨i, hi, rfl⟩ := List.mem_map.1 h
  obtain ⟨h1, h2⟩ := List.mem_filter.1 hi
  have h3 := List.mem_range.1 h1
  unfold ovN at h3
  unfold ovAt at h2
  rw [beq_iff_eq, ByteArray.toList_eq, ByteArray.toList_eq, drop_extract, take_extract] at h2
  refine ⟨u.data.toList.take (u.size - (i + 1)), v.data.toList.take (i + 1), v.data.toList.drop (i + 1), ?_, (List.take_append_drop _ _).symm, ?_⟩
  · rw [← h2, List.take_append_drop]
  · rw [List.length_take, bytes_len]
    congr 1
    omega
theorem crit_compl (hsy : systemOk l rs = true) (hC : Crit (rl rs)) : isCompl l rs = true := by
  unfold isCompl
  rw [Bool.and_eq_true, decide_eq_true_eq]
  refine ⟨hsy, ?_⟩
  have h0 : opAll l rs = [] := by
    unfold opAll prAll
    rw [if_pos hsy, List.filter_eq_nil_iff]
    intro p hp
    have hj : joinedP l rs p = true := by
      unfold prAcc prRow at hp
      simp only [List.mem_flatMap, List.mem_range] at hp
      obtain ⟨i, hi, j, hj, hc⟩ := hp
      obtain ⟨-, g1, -, s1, -, -⟩ := sys_rule hsy hi
      obtain ⟨-, g2, -, s2, -, -⟩ := sys_rule hsy hj
      obtain ⟨q1, q4, -⟩ := sys_in hsy
      have e0 : (((([] : WL).length : Nat)) : Int) = 0 := rfl
      unfold prCell at hc
      rcases List.mem_append.1 hc with hc | hc
      · unfold insideL at hc
        split at hc
        · cases hc
        · obtain ⟨q, hq, rfl⟩ := List.mem_map.1 hc
          obtain ⟨a, b, e, rfl⟩ := pls_parts hq
          have := joined_of hsy hC (W := (ruleAt rs i).1) (wordOk_mk q1 q4 (by omega) s1) hi hj (a := []) (b := []) (by rw [List.nil_append, List.append_nil]) e
          rw [e0] at this
          exact this
      · unfold acrossL at hc
        obtain ⟨n, hn, rfl⟩ := List.mem_map.1 hc
        obtain ⟨x, y, z, e1, e2, rfl⟩ := ovs_parts hn
        have l1 := bytes_len (ruleAt rs i).1
        rw [e1, List.length_append] at l1
        have l2 := bytes_len (ruleAt rs j).1
        rw [e2, List.length_append] at l2
        obtain ⟨W, hW⟩ : ∃ W, W = (ruleAt rs i).1 ++ (ruleAt rs j).1.extract y.length (ruleAt rs j).1.size := ⟨_, rfl⟩
        have hWd : W.data.toList = x ++ y ++ z := by
          rw [hW, ByteArray.data_append, Array.toList_append, drop_extract, e1, e2, List.drop_left]
        have hWs : W.size ≤ 16 := by
          rw [← bytes_len, hWd, List.length_append, List.length_append]
          omega
        have hWl : lettersOk l W = true := by rw [hW]; exact letters_app s1 (letters_ext s2 _ _)
        have := joined_of hsy hC (W := W) (wordOk_mk q1 q4 hWs hWl) hi hj (a := []) (b := z) (c := x) (d := []) (by rw [hWd, e1, List.nil_append]) (by rw [hWd, e2, List.append_nil, List.append_assoc])
        rw [e0] at this
        have e3 : (((ruleAt rs i).1.size : Nat) : Int) - (y.length : Nat) = (x.length : Nat) := by omega
        unfold joinedP acP
        dsimp only
        rw [Int.toNat_natCast, ← hW, e3]
        exact this
    rw [hj]
    simp
  rw [h0]
  rfl
/-- In a complete system the parts of a word can be reduced first. -/
theorem parts_first (h : isCompl l rs = true) {u v : ByteArray} (hu : wordOk l u = true) (hv : wordOk l v = true) (huv : wordOk l (u ++ v) = true) (hab : wordOk l (normS rs u ++ normS rs v) = true) : normS rs (u ++ v) = normS rs (normS rs u ++ normS rs v) ∧ normS rs (u ++ v) = farS rs (u ++ v) := by
  obtain ⟨hsy, -⟩ := compl_out h
  have hC := compl_crit h
  have hF := rl_falls hsy
  have s1 := (norm_star hsy hu).ctx [] v.data.toList
  have s2 := (norm_star hsy hv).ctx (normS rs u).data.toList []
  rw [List.nil_append, List.nil_append] at s1
  rw [List.append_nil, List.append_nil] at s2
  have e := conf_star hF hC (s1.trans s2)
  refine ⟨bytes_inj ?_, bytes_inj ?_⟩
  · rw [norm_nfL hsy hC huv, norm_nfL hsy hC hab, ByteArray.data_append, ByteArray.data_append, Array.toList_append, Array.toList_append, e]
  · rw [norm_nfL hsy hC huv, far_nfL hsy hC huv]
theorem app_word {u v : ByteArray} (hu : wordOk l u = true) (hv : wordOk l v = true) (h : u.size + v.size ≤ 16) : wordOk l (u ++ v) = true := by
  obtain ⟨a, b, -, c⟩ := wordOk_out hu
  exact wordOk_mk a b (by rw [ByteArray.size_append]; exact h) (letters_app c (wordOk_out hv).2.2.2)
theorem sorts_done : isCompl 2 [(⟨#[98, 97]⟩, ⟨#[97, 98]⟩)] = true := by
  have hsy : systemOk 2 [(⟨#[98, 97]⟩, ⟨#[97, 98]⟩)] = true := by decide +kernel
  refine crit_compl hsy ⟨fun q hq p hp x z e => ?_, fun q hq p hp x y z hx hy hz e1 e2 => ?_⟩
  · simp only [rl, List.map_cons, List.map_nil, List.mem_singleton] at hq hp
    subst hq hp
    have h1 := congrArg List.length e
    simp at h1
    have hx : x = [] := List.eq_nil_of_length_eq_zero (by omega)
    have hz : z = [] := List.eq_nil_of_length_eq_zero (by omega)
    subst hx hz
    exact .refl _
  · simp only [rl, List.map_cons, List.map_nil, List.mem_singleton] at hq hp
    subst hq hp
    exfalso
    match x, y, z, hx, hy, hz, e1, e2 with
    | [a], [b], [c], _, _, _, e1, e2 => simp at e1 e2; rw [← e1.2] at e2; exact absurd e2.1 (by decide)
    | a :: a2 :: x, b :: y, _, _, _, _, e1, _ => simp at e1
    | [a], b :: b2 :: y, _, _, _, _, e1, _ => simp at e1
    | [a], [b], c :: c2 :: z, _, _, _, _, e2 => simp at e2

end Go.Proofs.YteafeecndghapaaGreat
