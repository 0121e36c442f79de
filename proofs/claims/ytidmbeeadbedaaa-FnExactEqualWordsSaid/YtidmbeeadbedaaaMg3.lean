/- Merged texts: a claim has a limit of files. -/
import Derived.Test.YtidmbeeadbedaaaAddW
import Derived.Test.YtidmbeeadbedaaaMg2

/- Walks over WordOk (the program's and the reference's) and hasLetters, and over the weight of a word: each returns what wordOk and wsum say, for all arguments. -/
namespace Go.Proofs.Ytidmbeeadbedaaa
open Go.RowKit Go.Shelf

/-- The letters of s are among the first k. -/
def lettersOk (k : Int) (s : ByteArray) : Bool := s.data.toList.all (fun b => inB b.toNat 97 (96 + k))
/-- WordOk, in plain words. -/
def wordOk (k : Int) (s : ByteArray) : Bool := inB k 1 4 && decide (s.size ≤ 16) && lettersOk k s

theorem bytes_len (s : ByteArray) : s.data.toList.length = s.size := by rw [Array.length_toList]; rfl
theorem byte_get (s : ByteArray) (j : Nat) (h : j < s.size) : s[j] = s.data.toList.getD j 0 := by
  have h' : j < s.data.toList.length := by rw [bytes_len]; exact h
  rw [List.getD_eq_getElem?_getD, List.getElem?_eq_getElem h']
  rfl

set_option maxRecDepth 100000 in
set_option maxHeartbeats 400000 in
theorem hasLetters_any (k : Int) (s : ByteArray) (w : World) (h1 : 1 ≤ k) (h2 : k ≤ 4) (hs : s.size ≤ 9223372036854775807) :
    Calls Try.prog 147 #[.int .i64 k, .string s] w fun e w' => e = .returned (.bool (lettersOk k s)) ∧ w = w' := by
  go_enter Try.func147, Try.ntmps147
  go_wp2_with fail
  go_loop [8] (fun i => ∃ (j : Nat), j ≤ s.size ∧ i = .int .i64 j ∧ Hid ((s.data.toList.take j).all (fun b => inB b.toNat 97 (96 + k)) = true)) (fun i => s.size - (intOf i).toNat)
  case atStart => exact ⟨0, Nat.zero_le _, rfl, by simp [Hid]⟩
  case round =>
    obtain ⟨j, hj, rfl, HA⟩ := hrel
    by_cases hlt : j < s.size
    · have h256 : s[j].toNat < 256 := s[j].toNat_lt
      have hlt' : j < s.data.toList.length := by rw [bytes_len]; exact hlt
      have hv := byte_get s j hlt
      have Hv := Lib.hid hv
      clear hv
      have Hlt' := Lib.hid hlt'
      clear hlt'
      go_wp2_with fail
      refine (within_any (s[j].toNat : Int) 97 (97 + k - 1) _).mono ?_
      rintro e w' ⟨rfl, rfl⟩
      obtain ⟨r, hrr⟩ : ∃ r, r = inB (s[j].toNat : Int) 97 (97 + k - 1) := ⟨_, rfl⟩
      rw [← hrr]
      have HR : Hid ((fun b : UInt8 => inB b.toNat 97 (96 + k)) s[j] = r) := by
        unfold Hid
        rw [hrr, show (97 + k - 1) = 96 + k from by omega]
      clear hrr
      cases r
      · go_wp2_with fail
        go_ret
        exact ⟨ret_bool (by rw [lettersOk, all_miss (Hlt'.out) Hv.out HR.out]), rfl⟩
      · go_wp2_with fail
        go_round
        case rel => exact ⟨j + 1, by omega, by go_num, all_snoc (Hlt'.out) HA.out Hv.out HR.out⟩
        case measure => simp [intOf]; omega
    · have : j = s.size := by omega
      subst this
      go_wp2_with fail
      go_ret
      exact ⟨ret_bool (by have := HA.out; rw [List.take_of_length_le (by rw [bytes_len]; omega)] at this; rw [lettersOk, this]), rfl⟩

set_option maxRecDepth 100000 in
set_option maxHeartbeats 400000 in
theorem implWord_any (k : Int) (s : ByteArray) (w : World) (hs : s.size ≤ 9223372036854775807) :
    Calls Try.prog 87 #[.int .i64 k, .string s] w fun e w' => e = .returned (.bool (wordOk k s)) ∧ w = w' := by
  go_enter Try.func87, Try.ntmps87
  go_wp2_with fail
  refine (within_any k 1 4 _).mono ?_
  rintro e w' ⟨rfl, rfl⟩
  obtain ⟨r1, hrr⟩ : ∃ r', r' = (inB k 1 4) := ⟨_, rfl⟩
  rw [← hrr]
  have H1 := Lib.hid hrr
  clear hrr
  cases r1
  · go_wp2_with fail
    go_ret
    exact ⟨ret_bool (by rw [wordOk, ← H1.out]; rfl), rfl⟩
  · obtain ⟨hm1, hm2⟩ := inB_out H1.out
    by_cases hl : s.size ≤ 16
    · skip
      go_wp2_with fail
      refine (hasLetters_any k s _ hm1 hm2 hs).mono ?_
      rintro e w' ⟨rfl, rfl⟩
      obtain ⟨r2, hrr⟩ : ∃ r', r' = (lettersOk k s) := ⟨_, rfl⟩
      rw [← hrr]
      have H2 := Lib.hid hrr
      clear hrr
      go_wp2_with fail
      go_ret
      exact ⟨ret_bool (by rw [H2.out, wordOk, ← H1.out, decide_eq_true hl]; rfl), rfl⟩
    · go_wp2_with fail
      go_ret
      exact ⟨ret_bool (by rw [wordOk, ← H1.out, decide_eq_false hl]; rfl), rfl⟩

set_option maxRecDepth 100000 in
set_option maxHeartbeats 400000 in
theorem specWord_any (k : Int) (s : ByteArray) (w : World) (hs : s.size ≤ 9223372036854775807) :
    Calls Try.prog 63 #[.int .i64 k, .string s] w fun e w' => e = .returned (.bool (wordOk k s)) ∧ w = w' := by
  go_enter Try.func63, Try.ntmps63
  go_wp2_with fail
  refine (l01In_any k 1 4 _).mono ?_
  rintro e w' ⟨rfl, rfl⟩
  obtain ⟨r1, hrr⟩ : ∃ r', r' = (inB k 1 4) := ⟨_, rfl⟩
  rw [← hrr]
  have H1 := Lib.hid hrr
  clear hrr
  cases r1
  · go_wp2_with fail
    go_ret
    exact ⟨ret_bool (by rw [wordOk, ← H1.out]; rfl), rfl⟩
  · obtain ⟨hm1, hm2⟩ := inB_out H1.out
    by_cases hl : s.size ≤ 16
    · skip
      go_wp2_with fail
      go_loop [5] (fun i => ∃ (j : Nat), j ≤ s.size ∧ i = .int .i64 j ∧ Hid ((s.data.toList.take j).all (fun b => inB b.toNat 97 (96 + k)) = true)) (fun i => s.size - (intOf i).toNat)
      case atStart => exact ⟨0, Nat.zero_le _, rfl, by simp [Hid]⟩
      case round =>
        obtain ⟨j, hj, rfl, HA⟩ := hrel
        by_cases hlt : j < s.size
        · have hlt' : j < s.data.toList.length := by rw [bytes_len]; exact hlt
          have hv := byte_get s j hlt
          have Hv := Lib.hid hv
          clear hv
          have Hlt' := Lib.hid hlt'
          clear hlt'
          have h256 : s[j].toNat < 256 := s[j].toNat_lt
          by_cases c1 : (s[j].toNat : Int) < 97
          · go_wp2
            go_ret
            exact ⟨ret_bool (by rw [wordOk, lettersOk, all_miss (Hlt'.out) Hv.out (by simp [inB]; omega), Bool.and_false]), rfl⟩
          · by_cases c2 : k ≤ (s[j].toNat : Int) - 97
            · go_wp2
              go_ret
              exact ⟨ret_bool (by rw [wordOk, lettersOk, all_miss (Hlt'.out) Hv.out (by simp [inB]; omega), Bool.and_false]), rfl⟩
            · go_wp2
              go_round
              case rel => exact ⟨j + 1, by omega, by go_num, all_snoc (Hlt'.out) HA.out Hv.out (by simp [inB]; omega)⟩
              case measure => simp [intOf]; omega
        · have : j = s.size := by omega
          subst this
          go_wp2
          go_ret
          exact ⟨ret_bool (by have := HA.out; rw [List.take_of_length_le (by rw [bytes_len]; omega)] at this; rw [wordOk, lettersOk, this, ← H1.out, decide_eq_true hl]; rfl), rfl⟩
    · go_wp2_with fail
      go_ret
      exact ⟨ret_bool (by rw [wordOk, ← H1.out, decide_eq_false hl]; rfl), rfl⟩

end Go.Proofs.Ytidmbeeadbedaaa

/- append of one element inside a region that draws its order; small lemmas on owned rows. -/
namespace Go.Proofs.Ytidmbeeadbedaaa
open Go.RowKit Go.Shelf

/-- 'append(v, x)' of one element that lies in the newest block, as a step of a region. -/
theorem step_app1 {P : Program} {ops : Array Oper} {o : Oper} {a : Act} {K : Act → World → Prop} {Q : Exit → Act → World → Prop} {E : Prop} (w w0 : World) (hgd : o.guard = none) (s x : Operand) (t : TypeId)
    (ho : o.op = .call { callee := .builtin .append, args := #[s, x], argTypes := #[t, t] }) (base e size bytes : Nat) (z : Value) (ht : P.underlying t = some (.slice e))
    (hinfo : (P.info? e).map (fun i => (i.zero, i.size, i.bytes)) = some (some z, size, bytes)) (hzs : z.cells.size = size) (hsz : 0 < size) (v : Value) (n : Nat) (xs : List Value) (cs : Array Value)
    (hw : w = w0.alloc (.cells cs e)) (hs : a.eval s = v) (hx : a.eval x = .slice (some ⟨w0.heap.size, 0, none⟩) 1 1) (hown : w0.ownsRow base e size v n xs) (hcs : cs.size = size) (h1 : ∀ u ∈ cs.toList, u.oneCell' = true)
    (hn : (n + 1) * bytes ≤ 140737488355328) (hm : n + 1 ≤ maxLen) (hbase : base ≤ w0.heap.size)
    (h : ∀ A c w', w'.ownsRow base e size (.slice A (n + 1) c) (n + 1) (xs ++ cs.toList) → Below base w0 w' → K (a.put o.dst (.slice A (n + 1) c)) w') :
    if Region.wanted o (yielded ops a.tmps) = true then Oper.wp P o a w K Q else E := by
  subst hw
  have hwn : Region.wanted o (yielded ops a.tmps) = true := by simp [Region.wanted, hgd]
  rw [if_pos hwn]
  obtain ⟨i0, hi, hz0, hz1, hz2⟩ := info_parts hinfo
  refine wp_append_own _ s x t ho base e i0 z size bytes ht hi hz0 hz1 hz2 hzs hsz v n xs hs (hown.alloc _) ⟨w0.heap.size, 0, none⟩ 1 1 cs.toList hx (by simpa using hcs) ?_ h1 hm hn (by simp; omega) ?_
  · intro j u hu
    have e' : (⟨w0.heap.size, 0, none⟩ : Addr).add j = ⟨w0.heap.size, j, none⟩ := by unfold Addr.add; split <;> simp_all
    rw [e', (Bk.new w0 e cs).cell j]
    simpa using hu
  · intro v' w' hown' hgrow _
    have hform : ∃ A c, v' = .slice A (n + 1) c := by
      rcases hown'.2 with ⟨_, h0⟩ | ⟨g, cap, cur, hv, _⟩
      · omega
      · exact ⟨_, _, hv⟩
    obtain ⟨A, c, rfl⟩ := hform
    refine h A c w' hown' ?_
    have hb0 : Below base w0 (w0.alloc (.cells cs e)) := (Below.refl _ _).alloc hbase _
    exact hb0.grown hgrow (by simp; omega) fun k hk => ((hown.alloc (.cells cs e)).lt k hk).1

theorem own_mono {w : World} {b b' : Nat} {t : TypeId} {m : Nat} {v : Value} {n : Nat} {xs : List Value} (h : w.ownsRow b t m v n xs) (hb : b' ≤ b) : w.ownsRow b' t m v n xs := by
  refine ⟨h.1, ?_⟩
  rcases h.2 with h2 | ⟨g, cap, cur, hv, hg, r⟩
  · exact .inl h2
  · exact .inr ⟨g, cap, cur, hv, Nat.le_trans hb hg, r⟩

theorem Bk.cast {w : World} {g g' : Nat} {t : TypeId} {cs : Array Value} (h : Bk w g t cs) (e : g = g') : Bk w g' t cs := e ▸ h

end Go.Proofs.Ytidmbeeadbedaaa

/- Walks over SidesOk (the program's and the reference's): each returns what sidesOk says, for all arguments. -/
namespace Go.Proofs.Ytidmbeeadbedaaa
open Go.RowKit Go.Shelf

/-- SidesOk, in plain words. -/
def sidesOk (k : Int) (x y : ByteArray) : Bool := wordOk k x && wordOk k y && decide (x.size ≤ 8) && decide (y.size ≤ 8)

set_option maxRecDepth 100000 in
set_option maxHeartbeats 1000000 in
theorem specSides_any (k : Int) (x y : ByteArray) (w : World) (hx : x.size ≤ 9223372036854775807) (hy : y.size ≤ 9223372036854775807) :
    Calls Try.prog 143 #[.int .i64 k, .agg #[.string x, .string y]] w (Kept w (.bool (sidesOk k x y))) := by
  have hW : Below w.heap.size w (w.alloc (.cells #[.string x, .string y] 156)) := (Below.refl _ _).alloc (Nat.le_refl _) _
  go_enter Try.func143, Try.ntmps143
  go_wp2_with fail
  refine (specWord_any k x _ hx).mono ?_
  rintro e w' ⟨rfl, rfl⟩
  obtain ⟨r1, hrr⟩ : ∃ r', r' = (wordOk k x) := ⟨_, rfl⟩
  rw [← hrr]
  have H1 := Lib.hid hrr
  clear hrr
  cases r1
  · go_wp2_with fail
    go_ret
    exact ⟨ret_bool (by rw [sidesOk, ← H1.out]; rfl), hW⟩
  go_wp2_with fail
  refine (specWord_any k y _ hy).mono ?_
  rintro e w' ⟨rfl, rfl⟩
  obtain ⟨r2, hrr⟩ : ∃ r', r' = (wordOk k y) := ⟨_, rfl⟩
  rw [← hrr]
  have H2 := Lib.hid hrr
  clear hrr
  cases r2
  · go_wp2_with fail
    go_ret
    exact ⟨ret_bool (by rw [sidesOk, ← H1.out, ← H2.out]; rfl), hW⟩
  by_cases h3 : x.size ≤ 8
  · by_cases h4 : y.size ≤ 8
    · go_wp2_with fail
      go_ret
      exact ⟨ret_bool (by rw [sidesOk, ← H1.out, ← H2.out, decide_eq_true h3, decide_eq_true h4]; simp; omega), hW⟩
    · go_wp2_with fail
      go_ret
      exact ⟨ret_bool (by rw [sidesOk, ← H1.out, ← H2.out, decide_eq_true h3, decide_eq_false h4]; simp; omega), hW⟩
  · go_wp2_with fail
    go_ret
    exact ⟨ret_bool (by rw [sidesOk, ← H1.out, ← H2.out, decide_eq_false h3]; rfl), hW⟩
set_option maxRecDepth 100000 in
set_option maxHeartbeats 1000000 in
theorem implSides_any (k : Int) (x y : ByteArray) (w : World) (hx : x.size ≤ 9223372036854775807) (hy : y.size ≤ 9223372036854775807) :
    Calls Try.prog 153 #[.int .i64 k, .agg #[.string x, .string y]] w (Kept w (.bool (sidesOk k x y))) := by
  have hW : Below w.heap.size w (w.alloc (.cells #[.string x, .string y] 156)) := (Below.refl _ _).alloc (Nat.le_refl _) _
  go_enter Try.func153, Try.ntmps153
  go_wp2_with fail
  refine (implWord_any k x _ hx).mono ?_
  rintro e w' ⟨rfl, rfl⟩
  obtain ⟨r1, hrr⟩ : ∃ r', r' = (wordOk k x) := ⟨_, rfl⟩
  rw [← hrr]
  have H1 := Lib.hid hrr
  clear hrr
  cases r1
  · go_wp2_with fail
    go_ret
    exact ⟨ret_bool (by rw [sidesOk, ← H1.out]; rfl), hW⟩
  go_wp2_with fail
  refine (implWord_any k y _ hy).mono ?_
  rintro e w' ⟨rfl, rfl⟩
  obtain ⟨r2, hrr⟩ : ∃ r', r' = (wordOk k y) := ⟨_, rfl⟩
  rw [← hrr]
  have H2 := Lib.hid hrr
  clear hrr
  cases r2
  · go_wp2_with fail
    go_ret
    exact ⟨ret_bool (by rw [sidesOk, ← H1.out, ← H2.out]; rfl), hW⟩
  by_cases h3 : x.size ≤ 8
  · by_cases h4 : y.size ≤ 8
    · go_wp2_with fail
      go_ret
      exact ⟨ret_bool (by rw [sidesOk, ← H1.out, ← H2.out, decide_eq_true h3, decide_eq_true h4]; simp; omega), hW⟩
    · go_wp2_with fail
      go_ret
      exact ⟨ret_bool (by rw [sidesOk, ← H1.out, ← H2.out, decide_eq_true h3, decide_eq_false h4]; simp; omega), hW⟩
  · go_wp2_with fail
    go_ret
    exact ⟨ret_bool (by rw [sidesOk, ← H1.out, ← H2.out, decide_eq_false h3]; rfl), hW⟩

end Go.Proofs.Ytidmbeeadbedaaa
