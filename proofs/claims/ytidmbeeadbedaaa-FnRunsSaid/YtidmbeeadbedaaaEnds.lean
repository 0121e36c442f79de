/- Walks over longerWords, wordsUpTo and EndsAlways of the program and EndsAlways of the reference: both give the same answer. -/
import Derived.Test.YtidmbeeadbedaaaLoop
import Derived.Test.YtidmbeeadbedaaaSearchOk
import Derived.Test.YtidmbeeadbedaaaLetter
import Derived.Test.YtidmbeeadbedaaaStrF
namespace Go.Proofs.Ytidmbeeadbedaaa
open Go.RowKit Go.Shelf

/-- A word with each of the first x letters behind it. -/
def grow1 (s : ByteArray) (x : Nat) : List ByteArray := (List.range x).map fun (y : Nat) => s ++ letter (y : Int)
theorem grow1_succ (s : ByteArray) (x : Nat) : grow1 s (x + 1) = grow1 s x ++ [s ++ letter (x : Int)] := by rw [grow1, List.range_succ, List.map_append]; rfl
theorem grow1_len (s : ByteArray) (x : Nat) : (grow1 s x).length = x := by simp [grow1]
def growL (L : Nat) (ws : List ByteArray) : List ByteArray := ws.flatMap fun s => grow1 s L
theorem growL_snoc (L : Nat) (ws : List ByteArray) (s : ByteArray) : growL L (ws ++ [s]) = growL L ws ++ grow1 s L := by simp [growL]
theorem growL_len (L : Nat) : ∀ ws : List ByteArray, (growL L ws).length = ws.length * L
  | [] => by simp [growL]
  | s :: ws => by
    have ih := growL_len L ws
    rw [growL] at ih
    rw [growL, List.flatMap_cons, List.length_append, grow1_len, ih, List.length_cons, Nat.add_mul, Nat.one_mul, Nat.add_comm]
theorem growL_le {L : Nat} (h : L ≤ 4) (ws : List ByteArray) : (growL L ws).length ≤ 4 * ws.length := by
  rw [growL_len, Nat.mul_comm]
  exact Nat.mul_le_mul_right _ h
theorem growL_size {L : Nat} {ws : List ByteArray} {k : Nat} (h : ∀ s ∈ ws, s.size ≤ k) : ∀ s ∈ growL L ws, s.size ≤ k + 1 := fun s hs => by
  obtain ⟨u, hu, hs⟩ := List.mem_flatMap.1 hs
  obtain ⟨y, _, rfl⟩ := List.mem_map.1 hs
  have := h u hu
  rw [ByteArray.size_append, letter_size]
  omega
/-- The words of k letters, in order. -/
def lvl (L : Nat) : Nat → List ByteArray
  | 0 => [⟨#[]⟩]
  | k + 1 => growL L (lvl L k)
def upTo (L : Nat) : Nat → List ByteArray
  | 0 => [⟨#[]⟩]
  | k + 1 => upTo L k ++ lvl L (k + 1)
theorem lvl_len {L : Nat} (h : L ≤ 4) : ∀ k, (lvl L k).length ≤ 4 ^ k
  | 0 => Nat.le_refl _
  | k + 1 => by
    have h1 := growL_le h (lvl L k)
    have h2 := lvl_len h k
    rw [lvl, Nat.pow_succ]
    omega
theorem lvl_pos {L : Nat} (h : 1 ≤ L) : ∀ k, 0 < (lvl L k).length
  | 0 => Nat.succ_pos 0
  | k + 1 => by
    rw [lvl, growL_len]
    exact Nat.mul_pos (lvl_pos h k) h
theorem lvl_size {L : Nat} : ∀ k, ∀ s ∈ lvl L k, s.size ≤ k
  | 0, s, hs => by
    rw [lvl, List.mem_singleton] at hs
    rw [hs]; exact Nat.le_refl 0
  | k + 1, s, hs => growL_size (lvl_size k) s hs
theorem lvl_big {L : Nat} (h : L ≤ 4) {k : Nat} (hk : k ≤ 8) : (lvl L k).length ≤ 65536 := Nat.le_trans (lvl_len h k) (by
  have : k = 0 ∨ k = 1 ∨ k = 2 ∨ k = 3 ∨ k = 4 ∨ k = 5 ∨ k = 6 ∨ k = 7 ∨ k = 8 := by omega
  rcases this with rfl | rfl | rfl | rfl | rfl | rfl | rfl | rfl | rfl <;> decide)
theorem upTo_big {L : Nat} (h : L ≤ 4) : ∀ {k : Nat}, k ≤ 8 → (upTo L k).length ≤ 65536 * (k + 1)
  | 0, _ => by simp [upTo]
  | k + 1, hk => by
    have h1 := upTo_big h (k := k) (by omega)
    have h2 := lvl_big h hk
    rw [upTo, List.length_append]
    omega
theorem upTo_size {L : Nat} : ∀ k, ∀ s ∈ upTo L k, s.size ≤ k
  | 0, s, hs => lvl_size (L := L) 0 s hs
  | k + 1, s, hs => by
    rw [upTo, List.mem_append] at hs
    rcases hs with hs | hs
    · have := upTo_size k s hs
      omega
    · exact lvl_size (k + 1) s hs
/-- Does the run of a word not end? -/
def endsP (l : Int) (rs : List RuleT) (s : ByteArray) : Bool := (lpRun l rs s).2.2 != 0
/-- EndsAlways, in plain words. -/
def endsB (l : Int) (rs : List RuleT) (m : Int) : Bool := searchOk l rs m && !((upTo l.toNat m.toNat).any (endsP l rs))

set_option maxRecDepth 100000 in
set_option maxHeartbeats 1000000 in
theorem longer_any (L : Nat) (A : Option Addr) (n c : Nat) (ws : List ByteArray) (w : World) (hL : L ≤ 4) (hr : Rd w A (strs ws)) (hn : n = ws.length) (hb : n ≤ 65536) (hz : ∀ s ∈ ws, s.size ≤ 1000) :
    Calls Try.prog 156 #[.int .i64 (L : Int), .slice A n c] w (MadeSl w 9 1 (growL L ws).length (strs (growL L ws))) := by
  have Hr := Lib.hid hr
  clear hr
  have Hn := Lib.hid hn
  clear hn
  have Hz := Lib.hid hz
  clear hz
  go_enter Try.func156, Try.ntmps156
  go_wp2_with fail
  go_loopw [5, 11] (fun v i wr => ∃ (j : Nat) (B : Option Addr) (d z : Nat), j ≤ n ∧ v = .slice B z d ∧ i = .int .i64 j ∧ Hid (z = (growL L (ws.take j)).length) ∧ wr.ownsRow w.heap.size 9 1 (.slice B z d) z (strs (growL L (ws.take j))) ∧ Below w.heap.size w wr) (fun _ i _ => n - (intOf i).toNat)
  case atStart => exact ⟨0, none, 0, 0, Nat.zero_le _, rfl, rfl, Lib.hid rfl, World.ownsRow_nil _ _ _ _, Below.refl _ _⟩
  case round =>
    obtain ⟨j, B, d, z, hj, rfl, rfl, HZ, hown, hW⟩ := hrel
    by_cases hlt : j < n
    · have hj2 : j < ws.length := by rw [← Hn.out]; exact hlt
      obtain ⟨b, o, hA, hbl, p0⟩ := rd_Str (Hr.out.keep hW) hj2
      obtain ⟨s, hs⟩ : ∃ s, s = ws[j] := ⟨_, rfl⟩
      have hsz : s.size ≤ 1000 := by rw [hs]; exact Hz.out _ (List.getElem_mem hj2)
      have htk : ws.take (j + 1) = ws.take j ++ [s] := by rw [hs]; exact List.take_succ_eq_append_getElem hj2
      rw [← hs] at p0
      subst hA
      have hz0 : z ≤ 4 * n := by
        rw [HZ.out]
        have h1 := growL_le hL (ws.take j)
        have h2 := List.length_take_le j ws
        omega
      obtain ⟨base0, hbase0⟩ : ∃ q, q = growL L (ws.take j) := ⟨_, rfl⟩
      rw [← hbase0] at hown
      have hZ' : z = base0.length := by rw [hbase0]; exact HZ.out
      have hst : growL L (ws.take (j + 1)) = base0 ++ grow1 s L := by rw [htk, growL_snoc, hbase0]
      clear HZ
      have Hs := Lib.hid hs
      clear hs
      have Htk := Lib.hid htk
      clear htk
      have Hown := Lib.hid hown
      clear hown
      have HW := Lib.hid hW
      clear hW
      have Hbase0 := Lib.hid hbase0
      clear hbase0
      have HZ' := Lib.hid hZ'
      clear hZ'
      have Hst := Lib.hid hst
      clear hst
      go_wp2_with fail
      go_loopw [5, 16] (fun v i wq => ∃ (x : Nat) (B : Option Addr) (d : Nat), x ≤ L ∧ v = .slice B (z + x) d ∧ i = .int .i64 x ∧ wq.ownsRow w.heap.size 9 1 (.slice B (z + x) d) (z + x) (strs (base0 ++ grow1 s x)) ∧ Below w.heap.size w wq) (fun _ i _ => L - (intOf i).toNat)
      case atStart => exact ⟨0, B, d, Nat.zero_le _, rfl, rfl, by rw [show grow1 s 0 = [] from rfl, List.append_nil]; exact Hown.out, HW.out⟩
      case round =>
        clear Hown HW p0 hbl
        obtain ⟨x, B, d, hx, rfl, rfl, hown, hW⟩ := hrel
        by_cases hxl : x < L
        · have hg1 : strs (base0 ++ grow1 s (x + 1)) = strs (base0 ++ grow1 s x) ++ [.string (s ++ letter (x : Int))] := by rw [grow1_succ, ← List.append_assoc, strs_snoc]
          have hsl := letter_size (x : Int)
          have Hg1 := Lib.hid hg1
          clear hg1
          go_wp2_with fail
          refine (implLetter_any (x : Int) _ (by omega) (by omega)).mono ?_
          rintro e w2 ⟨rfl, b2⟩
          have hW2 := hW.trans (b2.mono hW.size)
          have ho2 := own_keep hown b2 (Nat.le_refl _)
          have hws := hW2.size
          clear b2 hW hown
          go_wp2_with (at_builtin; go_loud (refine wpList_app1 _ w2 rfl _ _ 29 rfl w.heap.size 9 1 16 _ Try.underlying29 info_str rfl (by omega) _ _ _ _ rfl rfl rfl ho2 rfl (one_cell_str _) (by omega) (by unfold maxLen; omega) (by omega) ?_; intro A5 c5 w5 hO5 hW5))
          have hW6 := hW2.trans hW5
          have hO6 : w5.ownsRow w.heap.size 9 1 (.slice A5 (z + (x + 1)) c5) (z + (x + 1)) (strs (base0 ++ grow1 s (x + 1))) := by rw [Hg1.out]; exact hO5
          clear hO5 ho2
          go_wp2_with fail
          go_roundw
          case rel => exact ⟨x + 1, A5, c5, by omega, rfl, by go_num, hO6, hW6⟩
          case measure => simp [intOf] <;> omega
        · have : x = L := by omega
          subst this
          go_wp2_with fail
          go_roundw
          case rel => exact ⟨j + 1, B, d, z + x, by omega, rfl, by go_num, Lib.hid (by rw [Hst.out, List.length_append, grow1_len, ← HZ'.out]), by rw [Hst.out]; exact hown, hW⟩
          case measure => simp [intOf] <;> omega
    · have : j = n := by omega
      subst this
      have hT : ws.take j = ws := List.take_of_length_le (by rw [← Hn.out]; exact Nat.le_refl _)
      rw [hT] at hown HZ
      have HT := Lib.hid hT
      clear hT
      go_wp2_with fail
      go_ret
      rw [← HZ.out]
      exact ⟨B, d, rfl, hown, hW⟩

theorem own_shape {w : World} {base : Nat} {t : TypeId} {m n : Nat} {v : Value} {xs : List Value} (h : w.ownsRow base t m v n xs) : ∃ A c, v = .slice A n c := by
  rcases h.2 with ⟨h1, h2⟩ | ⟨g, cap, cur, hv, _⟩
  · exact ⟨none, 0, by rw [h1, h2]⟩
  · exact ⟨_, _, hv⟩
theorem strs_app (xs ys : List ByteArray) : strs (xs ++ ys) = strs xs ++ strs ys := by simp [strs]
theorem rd_cells {w : World} {g : Nat} {xs : List Value} (h : Rd w (some ⟨g, 0, none⟩) xs) : ∀ j u, xs[j]? = some u → w.cell? ((⟨g, 0, none⟩ : Addr).add j) = some u := fun j u hu => by
  obtain ⟨b, o, e, _, hc⟩ := h (by intro e; rw [e] at hu; cases hu)
  injection e with e
  injection e with e1 e2
  subst e1 e2
  have e' : (⟨g, 0, none⟩ : Addr).add j = ⟨g, 0 + j, none⟩ := by unfold Addr.add; split <;> simp_all
  rw [e', ← hc j u hu]
theorem one_cell_strs (xs : List ByteArray) : ∀ u ∈ strs xs, u.oneCell' = true := fun u hu => by
  obtain ⟨x, _, rfl⟩ := List.mem_map.1 hu
  rfl

set_option maxRecDepth 100000 in
set_option maxHeartbeats 2000000 in
theorem upTo_any (L m : Nat) (w : World) (hL1 : 1 ≤ L) (hL : L ≤ 4) (hm : m ≤ 8) :
    Calls Try.prog 103 #[.int .i64 (L : Int), .int .i64 (m : Int)] w (MadeSl w 9 1 (upTo L m).length (strs (upTo L m))) := by
  have hA0 : Rd ((w.alloc (.cells #[.string ⟨#[]⟩] 9)).alloc (.cells #[.string ⟨#[]⟩] 9)) (some ⟨w.heap.size, 0, none⟩) (strs (lvl L 0)) := Rd.of_own (own_of_bk (base := 0) (m := 1) (n := 1) ((Bk.new w 9 #[.string ⟨#[]⟩]).alloc _) (Nat.zero_le _) rfl (by unfold maxLen; omega))
  have hO0 := own_of_bk (base := w.heap.size) (m := 1) (n := 1) ((Bk.new (w.alloc (.cells #[.string ⟨#[]⟩] 9)) 9 #[.string ⟨#[]⟩]).cast (g' := w.heap.size + 1) (by simp)) (by omega) rfl (by unfold maxLen; omega)
  have hW0 : Below w.heap.size w ((w.alloc (.cells #[.string ⟨#[]⟩] 9)).alloc (.cells #[.string ⟨#[]⟩] 9)) := ((Below.refl _ _).alloc (Nat.le_refl _) _).alloc (by simp) _
  have HA0 := Lib.hid hA0
  clear hA0
  have HO0 := Lib.hid hO0
  clear hO0
  have HW0 := Lib.hid hW0
  clear hW0
  go_enter Try.func103, Try.ntmps103
  go_wp2_with fail
  go_loopw [5, 6, 10] (fun v o i wr => ∃ (k : Nat) (C : Option Addr) (e p : Nat) (B : Option Addr) (d z : Nat), k ≤ m ∧ v = .slice C p e ∧ o = .slice B z d ∧ i = .int .i64 k ∧ Hid (p = (lvl L k).length) ∧ Hid (z = (upTo L k).length) ∧ Rd wr C (strs (lvl L k)) ∧ wr.ownsRow w.heap.size 9 1 (.slice B z d) z (strs (upTo L k)) ∧ Below w.heap.size w wr) (fun _ _ i _ => m - (intOf i).toNat)
  case atStart => exact ⟨0, _, _, 1, _, _, 1, Nat.zero_le _, rfl, rfl, rfl, Lib.hid rfl, Lib.hid rfl, HA0.out, HO0.out, HW0.out⟩
  case round =>
    clear HA0 HO0 HW0
    obtain ⟨k, C, e, p, B, d, z, hk, rfl, rfl, rfl, HP, HZ, hrd, hown, hW⟩ := hrel
    by_cases hlt : k < m
    · have hp := lvl_big hL (k := k) (by omega)
      have hz1 := upTo_big hL (k := k) (by omega)
      rw [← HP.out] at hp
      rw [← HZ.out] at hz1
      have hlv : growL L (lvl L k) = lvl L (k + 1) := rfl
      have hup : upTo L (k + 1) = upTo L k ++ lvl L (k + 1) := rfl
      have hq1 := lvl_big hL (k := k + 1) (by omega)
      have hq0 := lvl_pos hL1 (k + 1)
      have Hlv := Lib.hid hlv
      clear hlv
      have Hup := Lib.hid hup
      clear hup
      go_wp2_with fail
      refine (longer_any L C p e (lvl L k) _ hL hrd HP.out hp (fun s hs => Nat.le_trans (lvl_size k s hs) (by omega))).mono ?_
      rintro e0 w2 ⟨C2, e2, rfl, hO2, b2⟩
      rw [Hlv.out] at hO2 ⊢
      obtain ⟨q, hq⟩ : ∃ q, q = (lvl L (k + 1)).length := ⟨_, rfl⟩
      rw [← hq] at hO2 hq1 hq0 ⊢
      have hW2 := hW.trans (b2.mono hW.size)
      have ho2 := own_keep hown b2 (Nat.le_refl _)
      obtain ⟨g2, rfl, hg1, hg2⟩ := own_some hO2 hq0
      have hap := own_apart' hO2 hown (Nat.le_refl _)
      have hrd2 := Rd.of_own hO2
      have hl2 : (strs (lvl L (k + 1))).length = q * 1 := by rw [strs_len, hq, Nat.mul_one]
      have hcl := rd_cells hrd2
      have hoc := one_cell_strs (lvl L (k + 1))
      obtain ⟨i0, hi, hi0, hi1, hi2⟩ := info_parts info_str
      obtain ⟨ns, hns⟩ : ∃ ns, ns = strs (lvl L (k + 1)) := ⟨_, rfl⟩
      rw [← hns] at hl2 hcl hoc
      have hws := hW2.size
      clear b2 hown hW hrd
      have Hq := Lib.hid hq
      clear hq
      have HO2 := Lib.hid hO2
      clear hO2
      have Hap := Lib.hid hap
      clear hap
      have Hrd2 := Lib.hid hrd2
      clear hrd2
      have Hns := Lib.hid hns
      clear hns
      have Hcl := Lib.hid hcl
      clear hcl
      have Hoc := Lib.hid hoc
      clear hoc
      have Hi0 := Lib.hid hi0
      clear hi0
      have Hi1 := Lib.hid hi1
      clear hi1
      have Hi2 := Lib.hid hi2
      clear hi2
      go_wp2_with (at_builtin; refine wpList_append_own _ rfl _ _ 29 rfl w.heap.size 9 i0 _ 1 16 Try.underlying29 hi Hi0.out Hi1.out Hi2.out rfl (by omega) (.slice B z d) z _ rfl ho2 ⟨g2, 0, none⟩ q e2 ns rfl hl2 Hcl.out Hoc.out (by unfold maxLen; omega) (by omega) hws ?_; intro v' w5 hO5 hG hX)
      obtain ⟨A5, c5, rfl⟩ := own_shape hO5
      have hW5 := hW2.grown hG hW2.size fun k hk => (ho2.lt k hk).1
      have hrd5 := Rd.grown Hrd2.out hG (by
        intro a ha
        injection ha with ha
        subst ha
        intro e9
        exact (Hap.out.resolve_left (by simp [Value.ownBlock])) e9.symm)
      rw [Hns.out, ← strs_app, ← Hup.out] at hO5
      clear hG hX ho2
      have HO5 := Lib.hid hO5
      clear hO5
      have Hrd5 := Lib.hid hrd5
      clear hrd5
      have HW5 := Lib.hid hW5
      clear hW5
      go_wp2_with fail
      go_roundw
      case rel => exact ⟨k + 1, _, e2, q, A5, c5, z + q, by omega, rfl, rfl, by go_num, Hq, Lib.hid (by rw [Hup.out, List.length_append, ← HZ.out, ← Hq.out]), Hrd5.out, HO5.out, HW5.out⟩
      case measure => simp [intOf] <;> omega
    · have : k = m := by omega
      subst this
      go_wp2_with fail
      go_ret
      rw [← HZ.out]
      exact ⟨B, d, rfl, hown, hW⟩

set_option maxRecDepth 100000 in
set_option maxHeartbeats 2000000 in
theorem endsLit_any (l : Int) (A : Option Addr) (n c : Nat) (rs : List RuleT) (s : ByteArray) (b : Nat) (w : World) (h0 : w.cell? ⟨b, 0, none⟩ = some (.int .i64 l)) (h1 : w.cell? ⟨b, 1, none⟩ = some (.slice A n c)) (hr : Rd w A (cellsRule rs)) (hn : n = rs.length) (hb : n ≤ 1048576) (hz : ∀ x ∈ rs, x.1.size ≤ 1048576 ∧ x.2.size ≤ 1048576) (hs : s.size ≤ 1048576) :
    Calls Try.prog 104 #[.string s, .pointer (some ⟨b, 0, none⟩)] w (Kept w (.bool (endsP l rs s))) := by
  have Hr := Lib.hid hr
  clear hr
  have Hn := Lib.hid hn
  clear hn
  have Hz := Lib.hid hz
  clear hz
  go_enter Try.func104, Try.ntmps104
  go_wp2_with fail
  refine (implRunLoop_any l A n c rs s _ Hr.out Hn.out hb Hz.out hs).mono ?_
  rintro e w1 ⟨rfl, b1⟩
  obtain ⟨⟨v0, v1, v2⟩, hv⟩ : ∃ v, v = lpRun l rs s := ⟨_, rfl⟩
  rw [← hv]
  have er : runV (v0, v1, v2) = .agg #[.string v0, .int .i64 v1, .int .i64 v2] := rfl
  rw [er]
  clear er
  have e1 : endsP l rs s = (v2 != 0) := by rw [endsP, ← hv]
  have hfd : ∀ W : World, (Instr.field 67 (.agg #[.string v0, .int .i64 v1, .int .i64 v2]) 2).run Try.prog W = .ok (.int .i64 v2) W := fun W => by rfl
  have Hv := Lib.hid hv
  clear hv
  have E1 := Lib.hid e1
  clear e1
  go_wp2_with fail
  go_ret
  exact ⟨ret_bool (by rw [E1.out]), b1⟩

set_option maxRecDepth 100000 in
set_option maxHeartbeats 2000000 in
theorem implEndsAlways_any (l : Int) (A : Option Addr) (n c : Nat) (rs : List RuleT) (m : Int) (w : World) (hr : Rd w A (cellsRule rs)) (hn : n = rs.length) (hb : n ≤ 1048576) (hz : ∀ x ∈ rs, x.1.size ≤ 1048576 ∧ x.2.size ≤ 1048576) :
    Calls Try.prog 44 #[.agg #[.int .i64 l, .slice A n c], .int .i64 m] w (Kept w (.bool (endsB l rs m))) := by
  have hmf : ∀ (fn : Fn) (first cap : Array Value) (w : World), (Instr.makeFunc fn first cap).run Try.prog w = .ok (.func fn first cap) w := fun _ _ _ _ => rfl
  have eg : ∀ args w, (callFunc 104 args).run Try.prog w = .ok (.enter 104 args) w := enters_of Try.func104 (by kernel_rfl) rfl
  have hW0 : Below w.heap.size w (w.alloc (.cells #[.int .i64 l, .slice A n c] 25)) := (Below.refl _ _).alloc (Nat.le_refl _) _
  have hS0 := Bk.new w 25 #[.int .i64 l, .slice A n c]
  have Hr := Lib.hid hr
  clear hr
  have Hn := Lib.hid hn
  clear hn
  have Hz := Lib.hid hz
  clear hz
  have Eg := Lib.hid eg
  clear eg
  go_enter Try.func44, Try.ntmps44
  go_wp2_with fail
  with_reducible refine (implSearchOk_any l A n c rs m _ (Hr.out.keep hW0) Hn.out hb Hz.out).mono ?_
  rintro e w1 ⟨rfl, b1⟩
  have hW1 := hW0.trans (b1.mono hW0.size)
  have hS1 := hS0.below b1 hS0.lt
  have s0_1 : w1.cell? ⟨w.heap.size, 0, none⟩ = some (.int .i64 l) := by rw [hS1.cell]; rfl
  have s1_1 : w1.cell? ⟨w.heap.size, 1, none⟩ = some (.slice A n c) := by rw [hS1.cell]; rfl
  have sl_1 := hS1.lt
  clear b1
  obtain ⟨o1, hrr⟩ : ∃ r', r' = (searchOk l rs m) := ⟨_, rfl⟩
  rw [← hrr]
  have H1 := Lib.hid hrr
  clear hrr
  cases o1
  · go_wp2_with fail
    go_ret
    exact ⟨ret_bool (by rw [endsB, ← H1.out]; rfl), hW1⟩
  have hso := H1.out.symm
  unfold searchOk at hso
  simp only [Bool.and_eq_true] at hso
  obtain ⟨hl1, hl4⟩ := rulesOk_l hso.1.1
  obtain ⟨hm1, hm2⟩ := inB_out hso.1.2.symm
  obtain ⟨M, rfl⟩ := Int.eq_ofNat_of_zero_le hm1
  obtain ⟨L, rfl⟩ := Int.eq_ofNat_of_zero_le (show 0 ≤ l by omega)
  have e1 : endsB (L : Int) rs (M : Int) = !((upTo L M).any (endsP (L : Int) rs)) := by rw [endsB, ← H1.out, Int.toNat_natCast, Int.toNat_natCast]; rfl
  clear hso
  have E1 := Lib.hid e1
  clear e1
  go_wp2_with fail
  refine (upTo_any L M _ (by omega) (by omega) (by omega)).mono ?_
  rintro e w2 ⟨C, d, rfl, hO, b2⟩
  have hW2 := hW1.trans (b2.mono hW1.size)
  have hS2 := hS1.below b2 hS1.lt
  have hub := upTo_big (L := L) (by omega) (k := M) (by omega)
  obtain ⟨q, hq⟩ : ∃ q, q = (upTo L M).length := ⟨_, rfl⟩
  rw [← hq] at hO hub ⊢
  clear b2 hS1 hW1 s0_1 s1_1 sl_1
  have HS2 := Lib.hid hS2
  clear hS2
  have HW2 := Lib.hid hW2
  clear hW2
  have HO := Lib.hid hO
  clear hO
  have Hq := Lib.hid hq
  clear hq
  go_wp2_with fail
  refine (containsFunc_String C q d (upTo L M) 104 #[.pointer (some ⟨w.heap.size, 0, none⟩)] (endsP (L : Int) rs) _ Eg.out (Rd.of_own HO.out) Hq.out (by omega) (fun W x hx hB => endsLit_any (L : Int) A n c rs x w.heap.size W (by rw [(HS2.out.below hB HS2.out.lt).cell]; rfl) (by rw [(HS2.out.below hB HS2.out.lt).cell]; rfl) ((Hr.out.keep HW2.out).keep hB) Hn.out hb Hz.out (by have := upTo_size M x hx; omega))).mono ?_
  rintro e w3 ⟨rfl, b3⟩
  obtain ⟨r, hrr⟩ : ∃ r', r' = ((upTo L M).any (endsP (L : Int) rs)) := ⟨_, rfl⟩
  rw [← hrr]
  have Hr3 := Lib.hid hrr
  clear hrr
  go_wp2_with fail
  go_ret
  exact ⟨ret_bool (by rw [E1.out, Hr3.out]), HW2.out.trans (b3.mono HW2.out.size)⟩

end Go.Proofs.Ytidmbeeadbedaaa
