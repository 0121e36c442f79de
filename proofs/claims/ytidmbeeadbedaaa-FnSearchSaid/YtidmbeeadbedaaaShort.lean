/- Walks over ShortestChain and DistanceBetween of the program. -/
import Derived.Test.YtidmbeeadbedaaaSearchI
import Derived.Test.YtidmbeeadbedaaaTurn
namespace Go.Proofs.Ytidmbeeadbedaaa
open Go.RowKit Go.Shelf

theorem srAdd_le (rs : List RuleT) (a : Nat) (S : List SrT) (x : LinkT) : S.length ≤ (srAdd rs a S x).length := by
  cases hf : fnd (srWords S) (linkS rs (srAt S a).1 x) with
  | some i => rw [srAdd_some hf]; exact Nat.le_refl _
  | none => rw [srAdd_none hf, List.length_append]; omega
theorem srRow_wf {rs : List RuleT} {a : Nat} : ∀ (xs : List LinkT) (S : List SrT), srWf S → a < S.length → srWf (srRow rs a S xs)
  | [], _, h, _ => h
  | x :: xs, S, h, ha => srRow_wf xs (srAdd rs a S x) (srWf_add h ha) (Nat.lt_of_lt_of_le ha (srAdd_le rs a S x))
theorem srGo_wf {rs : List RuleT} {lim : Int} : ∀ (f a : Nat) (S : List SrT), srWf S → srWf (srGo rs lim f a S)
  | 0, _, _, h => h
  | f + 1, a, S, h => by
    rw [srGo]
    split
    · next hlt => exact srGo_wf f (a + 1) _ (srRow_wf _ _ h hlt)
    · exact h
theorem srAll_wf (rs : List RuleT) (s : ByteArray) (lim : Int) : srWf (srAll rs s lim) := srGo_wf _ _ _ (fun i hi => by
  have : i = 0 := by simp at hi; omega
  subst this
  exact .inl ⟨rfl, rfl, rfl⟩)
/-- The links that lead back from the i-th word, the last one first. -/
def srBack (S : List SrT) : Nat → Nat → List LinkT
  | 0, _ => []
  | k + 1, i => (srAt S i).2.2.1 :: srBack S k (srAt S i).2.1.toNat
theorem srBack_len (S : List SrT) : ∀ (k i : Nat), (srBack S k i).length = k
  | 0, _ => rfl
  | k + 1, i => by rw [srBack, List.length_cons, srBack_len S k]
/-- The chain to the i-th word. -/
def srChain (S : List SrT) (i : Nat) : List LinkT := (srBack S (srAt S i).2.2.2.toNat i).reverse
theorem srChain_len (S : List SrT) (i : Nat) : (srChain S i).length = (srAt S i).2.2.2.toNat := by rw [srChain, List.length_reverse, srBack_len]
/-- ShortestChain, in plain words. -/
def shR (l : Int) (rs : List RuleT) (u v : ByteArray) (lim : Int) : List LinkT × Bool := if searched l rs u lim && searched l rs v lim then (match fnd (srWords (srAll rs u lim)) v with
  | some i => (srChain (srAll rs u lim) i, true)
  | none => ([], false)) else ([], false)
def shC (l : Int) (rs : List RuleT) (u v : ByteArray) (lim : Int) : List LinkT := (shR l rs u v lim).1
def shOk (l : Int) (rs : List RuleT) (u v : ByteArray) (lim : Int) : Bool := (shR l rs u v lim).2
theorem good8_ne {k : Int} {s : ByteArray} (h : good8 k s) : s ≠ ⟨#[45]⟩ := by
  intro e
  subst e
  have := letters_in h.1 h.2.1 45 (by simp)
  have h1 : (45 : UInt8).toNat = 45 := rfl
  omega
theorem sr_root {l : Int} {S : List SrT} (hg : srGood l S) (hw : srWf S) {i : Nat} (hi : i < S.length) (h0 : (srAt S i).2.2.2 = 0) : srFromW S i = ⟨#[45]⟩ := by
  rcases hw i hi with h1 | ⟨h1, h2, h3⟩
  · rw [srFromW, if_pos h1.2.1]
  · have := (hg.2.2 (srAt S i).2.1.toNat (by omega)).1
    omega
theorem sr_step {l : Int} {S : List SrT} (hg : srGood l S) (hw : srWf S) {i k : Nat} (hi : i < S.length) (h0 : (srAt S i).2.2.2 = ((k + 1 : Nat) : Int)) : ∃ j, j < S.length ∧ (srAt S i).2.1 = (j : Int) ∧ (srAt S j).2.2.2 = (k : Int) ∧ srFromW S i = (srAt S j).1 := by
  rcases hw i hi with h1 | ⟨h1, h2, h3⟩
  · have := h1.2.2; omega
  · refine ⟨(srAt S i).2.1.toNat, by omega, by omega, by omega, ?_⟩
    rw [srFromW, if_neg (by omega)]
theorem sr_find {l : Int} {S : List SrT} (hg : srGood l S) {j : Nat} (hj : j < S.length) : fnd (srWords S) (srAt S j).1 = some j := by
  have h1 := fnd_nodup hg.1 (a := j) (by rw [srWords_len]; exact hj)
  have h2 : (srWords S)[j]'(by rw [srWords_len]; exact hj) = (srAt S j).1 := by
    unfold srAt srWords
    rw [List.getElem_map, List.getD_eq_getElem?_getD, List.getElem?_eq_getElem hj]
    rfl
  rwa [h2] at h1
def slenOf : Value → Nat
  | .slice _ n _ => n
  | _ => 0
def arrC (x : ArrT) : Array Value := #[.string x.1, .int .i64 x.2.1.1, .int .i64 x.2.1.2.1, .bool x.2.1.2.2, .int .i64 x.2.2]

set_option maxRecDepth 100000 in
set_option maxHeartbeats 4000000 in
theorem implShortestChain_any (l : Int) (A : Option Addr) (n c : Nat) (rs : List RuleT) (u v : ByteArray) (lim : Int) (w : World) (hr : Rd w A (cellsRule rs)) (hn : n = rs.length) (hb : n ≤ 1048576) (hz : ∀ x ∈ rs, x.1.size ≤ 1048576 ∧ x.2.size ≤ 1048576) (hs : u.size ≤ 1048576) (hv : v.size ≤ 1048576) :
    Calls Try.prog 25 #[.agg #[.int .i64 l, .slice A n c], .string u, .string v, .int .i64 lim] w (MadeSlB w 95 3 (shC l rs u v lim).length (cellsLink (shC l rs u v lim)) (shOk l rs u v lim)) := by
  have hW0 : Below w.heap.size w (w.alloc (.cells #[.int .i64 l, .slice A n c] 25)) := (Below.refl _ _).alloc (Nat.le_refl _) _
  have hS0 := Bk.new w 25 #[.int .i64 l, .slice A n c]
  have Hr := Lib.hid hr
  clear hr
  have Hn := Lib.hid hn
  clear hn
  have Hz := Lib.hid hz
  clear hz
  go_enter Try.func25, Try.ntmps25
  go_wp2_with fail
  with_reducible refine (implSearched_any l A n c rs u lim _ (Hr.out.keep hW0) Hn.out hb Hz.out hs).mono ?_
  rintro e w1 ⟨rfl, b1⟩
  have hW1 := hW0.trans (b1.mono hW0.size)
  have hS1 := hS0.below b1 hS0.lt
  have s0_1 : w1.cell? ⟨w.heap.size, 0, none⟩ = some (.int .i64 l) := by rw [hS1.cell]; rfl
  have s1_1 : w1.cell? ⟨w.heap.size, 1, none⟩ = some (.slice A n c) := by rw [hS1.cell]; rfl
  have sl_1 := hS1.lt
  clear b1
  obtain ⟨r1, hrr⟩ : ∃ r', r' = (searched l rs u lim) := ⟨_, rfl⟩
  rw [← hrr]
  have H1 := Lib.hid hrr
  clear hrr
  cases r1
  · have e1 : shC l rs u v lim = [] := by rw [shC, shR, ← H1.out]; rfl
    have e2 : shOk l rs u v lim = false := by rw [shOk, shR, ← H1.out]; rfl
    have E1 := Lib.hid e1
    clear e1
    have E2 := Lib.hid e2
    clear e2
    go_wp2_with fail
    go_ret2
    rw [E1.out, E2.out]
    exact ⟨none, 0, rfl, World.ownsRow_nil _ _ _ _, hW1⟩
  go_wp2_with fail
  with_reducible refine (implSearched_any l A n c rs v lim _ (Hr.out.keep hW1) Hn.out hb Hz.out hv).mono ?_
  rintro e w2 ⟨rfl, b2⟩
  have hW2 := hW1.trans (b2.mono hW1.size)
  have hS2 := hS1.below b2 hS1.lt
  have s0_2 : w2.cell? ⟨w.heap.size, 0, none⟩ = some (.int .i64 l) := by rw [hS2.cell]; rfl
  have s1_2 : w2.cell? ⟨w.heap.size, 1, none⟩ = some (.slice A n c) := by rw [hS2.cell]; rfl
  have sl_2 := hS2.lt
  clear b2
  obtain ⟨r2, hrr⟩ : ∃ r', r' = (searched l rs v lim) := ⟨_, rfl⟩
  rw [← hrr]
  have H2 := Lib.hid hrr
  clear hrr
  cases r2
  · have e1 : shC l rs u v lim = [] := by rw [shC, shR, ← H1.out, ← H2.out]; rfl
    have e2 : shOk l rs u v lim = false := by rw [shOk, shR, ← H1.out, ← H2.out]; rfl
    have E1 := Lib.hid e1
    clear e1
    have E2 := Lib.hid e2
    clear e2
    go_wp2_with fail
    go_ret2
    rw [E1.out, E2.out]
    exact ⟨none, 0, rfl, World.ownsRow_nil _ _ _ _, hW2⟩
  obtain ⟨hso, hwu⟩ : searchOk l rs lim = true ∧ word15 l u lim = true := by
    have h := H1.out.symm
    unfold searched at h
    simpa using h
  obtain ⟨hro, hg8, hl8⟩ := searched_out hso hwu
  have e1 : shR l rs u v lim = (match fnd (srWords (srAll rs u lim)) v with
    | some i => (srChain (srAll rs u lim) i, true)
    | none => ([], false)) := by rw [shR, ← H1.out, ← H2.out]; rfl
  obtain ⟨S, hS⟩ : ∃ S, S = srAll rs u lim := ⟨_, rfl⟩
  have hgd := srAll_good hro hl8 hg8
  have hwf := srAll_wf rs u lim
  have hlen := srGood_len hgd
  have hsr := implSearch_any l A n c rs u lim w2 (Hr.out.keep hW2) Hn.out hb Hz.out hro hg8 hl8
  rw [← hS] at e1 hgd hwf hlen hsr
  have E1 := Lib.hid e1
  clear e1
  have Hgd := Lib.hid hgd
  clear hgd
  have Hwf := Lib.hid hwf
  clear hwf
  have HS := Lib.hid hS
  clear hS
  have Hro := Lib.hid hro
  clear hro
  have Hg8 := Lib.hid hg8
  clear hg8
  have Hsr := Lib.hid hsr
  clear hsr
  have Hso := Lib.hid hso
  clear hso
  have Hwu := Lib.hid hwu
  clear hwu
  go_wp2_with fail
  refine Hsr.out.mono ?_
  rintro e w3 ⟨gm, g1, c1, nM, D, rfl, hmp, hM, o1, b3, hgm⟩
  have hW3 := hW2.trans (b3.mono hW2.size)
  clear o1 b3 s0_2 s1_2 sl_2 hS2 hW2
  have hkey := key_str (x := v) hv
  have hgl := hmp.lt
  have hwl3 := hW3.size
  obtain ⟨fo, hfo⟩ : ∃ fo, fo = fnd (srWords S) v := ⟨_, rfl⟩
  obtain ⟨v0, ps, hlook, hv0⟩ := hmp.look_ok (Maps.string_keyed Try.underlying9) Try.underlying111 (zero_arr _) (arrR_mk (⟨#[]⟩, (0, 0, false), 0)) hkey
  rw [(hM.2 v).1, ← hfo] at hlook
  cases fo with
  | none =>
    have hnh : Maps.has D (.string v.data.toList) = false := by rw [(hM.2 v).1, ← hfo]; rfl
    rw [Maps.atKey_of_not_has hnh] at hv0
    have hvv := arrR_inv hv0
    subst hvv
    have hlook' : (Instr.lookup 111 (.map (some gm)) (.string v) true).run Try.prog w3 = .ok (.tuple #[.agg #[.string ⟨#[]⟩, .int .i64 0, .int .i64 0, .bool false, .int .i64 0], .bool false]) w3 := hlook
    have e2 : shC l rs u v lim = [] := by rw [shC, E1.out, ← hfo]
    have e3 : shOk l rs u v lim = false := by rw [shOk, E1.out, ← hfo]
    clear hlook hv0
    have E2 := Lib.hid e2
    clear e2
    have E3 := Lib.hid e3
    clear e3
    have Hmp := Lib.hid hmp
    clear hmp
    have HM := Lib.hid hM
    clear hM
    have Hnh := Lib.hid hnh
    clear hnh
    have Hfo := Lib.hid hfo
    clear hfo
    go_wp2_with fail
    go_ret2
    rw [E2.out, E3.out]
    exact ⟨none, 0, rfl, World.ownsRow_nil _ _ _ _, hW3.alloc hW3.size _⟩
  | some i0 =>
    rw [(hM.2 v).2 i0 _ hfo.symm] at hv0
    have hvv := arrR_inv hv0
    have hi0 : i0 < S.length := by rw [← srWords_len]; exact fnd_lt hfo.symm
    have hfar := Hgd.out.2.2 i0 hi0
    obtain ⟨K, hK⟩ : ∃ K, K = (srAt S i0).2.2.2.toNat := ⟨_, rfl⟩
    have hKf : (srAt S i0).2.2.2 = (K : Int) := by omega
    have hKb : K ≤ 131072 := by omega
    obtain ⟨L, hL⟩ : ∃ L, L = srBack S K i0 := ⟨_, rfl⟩
    have hLl : L.length = K := by rw [hL, srBack_len]
    have e2 : shC l rs u v lim = L.reverse := by rw [shC, E1.out, ← hfo, hL, hK]; rfl
    have e3 : shOk l rs u v lim = true := by rw [shOk, E1.out, ← hfo]
    obtain ⟨⟨f0, ⟨f1, f2, f3⟩, f4⟩, hf⟩ : ∃ z, z = arrOf S i0 := ⟨_, rfl⟩
    rw [← hf] at hvv
    subst hvv
    have hlook' : (Instr.lookup 111 (.map (some gm)) (.string v) true).run Try.prog w3 = .ok (.tuple #[.agg #[.string f0, .int .i64 f1, .int .i64 f2, .bool f3, .int .i64 f4], .bool true]) w3 := hlook
    have hB4 := Bk.new w3 116 #[.string f0, .int .i64 f1, .int .i64 f2, .bool f3, .int .i64 f4]
    obtain ⟨bb, hbb⟩ : ∃ b, b = w3.heap.size := ⟨_, rfl⟩
    have hO4 := own_of_bk (base := bb + 1) (m := 3) (n := 0) ((Bk.new (w3.alloc (.cells #[.string f0, .int .i64 f1, .int .i64 f2, .bool f3, .int .i64 f4] 116)) 95 #[]).cast (g' := bb + 1) (by rw [hbb]; simp)) (Nat.le_refl _) rfl (by unfold maxLen; omega)
    have hB5 := hB4.alloc (.cells #[] 95)
    have hW5 := (hW3.alloc hW3.size (.cells #[.string f0, .int .i64 f1, .int .i64 f2, .bool f3, .int .i64 f4] 116)).alloc (by simp; omega) (.cells #[] 95)
    have hm5 := (hmp.alloc (.cells #[.string f0, .int .i64 f1, .int .i64 f2, .bool f3, .int .i64 f4] 116)).alloc (.cells #[] 95)
    rw [← hbb] at hB5
    have hB5' : Bk ((w3.alloc (.cells #[.string f0, .int .i64 f1, .int .i64 f2, .bool f3, .int .i64 f4] 116)).alloc (.cells #[] 95)) bb 116 (arrC (arrOf S i0)) := by rw [← hf]; exact hB5
    have hgb : gm < bb := by omega
    have hwb : w.heap.size ≤ bb := by omega
    have hL0 : [] ++ srBack S K i0 = L := by rw [hL]; rfl
    clear hlook hv0 hB4 hB5 hmp hW3
    have E2 := Lib.hid e2
    clear e2
    have E3 := Lib.hid e3
    clear e3
    have HM := Lib.hid hM
    clear hM
    have Hfo := Lib.hid hfo
    clear hfo
    have HO4 := Lib.hid hO4
    clear hO4
    have HB5' := Lib.hid hB5'
    clear hB5'
    have HW5 := Lib.hid hW5
    clear hW5
    have Hm5 := Lib.hid hm5
    clear hm5
    have Hf := Lib.hid hf
    clear hf
    have HL := Lib.hid hL
    clear hL
    have HLl := Lib.hid hLl
    clear hLl
    have HK := Lib.hid hK
    clear hK
    have HKf := Lib.hid hKf
    clear hKf
    have HL0 := Lib.hid hL0
    clear hL0
    go_wp2_with fail
    rw [← hbb]
    have Hbb := Lib.hid hbb
    clear hbb
    go_loopw [14] (fun o wr => ∃ (j k m : Nat) (B : Option Addr) (d : Nat) (ds : List LinkT), o = .slice B m d ∧ j < S.length ∧ Hid (m = ds.length) ∧ m + k = K ∧ Hid ((srAt S j).2.2.2 = (k : Int)) ∧ Hid (ds ++ srBack S k j = L) ∧ Bk wr bb 116 (arrC (arrOf S j)) ∧ Below w.heap.size w wr ∧ wr.ownsMap Try.prog 9 arrR gm nM D ∧ wr.ownsRow (bb + 1) 95 3 (.slice B m d) m (cellsLink ds)) (fun o _ => K - slenOf o)
    case atStart => exact ⟨i0, K, 0, _, _, [], rfl, hi0, Lib.hid rfl, by omega, HKf, HL0, HB5'.out, HW5.out, Hm5.out, HO4.out⟩
    case round =>
      clear HO4 HB5' HW5 Hm5 Hf hlook' HL0
      obtain ⟨j, k, m, B, d, ds, rfl, hj, HM3, hmk, HF, HL1, hB, hW, hmp, hO⟩ := hrel
      obtain ⟨⟨f0, ⟨f1, f2, f3⟩, f4⟩, hf⟩ : ∃ z, z = arrOf S j := ⟨_, rfl⟩
      rw [← hf] at hB
      have hB' : Bk wr bb 116 #[.string f0, .int .i64 f1, .int .i64 f2, .bool f3, .int .i64 f4] := hB
      have hbl := hB'.lt
      have p0 : wr.cell? ⟨bb, 0, none⟩ = some (.string f0) := by rw [hB'.cell]; rfl
      have p1 : wr.cell? ⟨bb, 1, none⟩ = some (.int .i64 f1) := by rw [hB'.cell]; rfl
      have p2 : wr.cell? ⟨bb, 2, none⟩ = some (.int .i64 f2) := by rw [hB'.cell]; rfl
      have p3 : wr.cell? ⟨bb, 3, none⟩ = some (.bool f3) := by rw [hB'.cell]; rfl
      have hf0 : f0 = srFromW S j := congrArg (fun z => z.1) hf
      have hfl : (f1, f2, f3) = (srAt S j).2.2.1 := congrArg (fun z => z.2.1) hf
      cases k with
      | zero =>
        have he : f0 = ⟨#[45]⟩ := by rw [hf0]; exact sr_root Hgd.out Hwf.out hj HF.out
        subst he
        have hds : ds = L := by have := HL1.out; rw [srBack, List.append_nil] at this; exact this
        have hmL : m = L.length := by rw [← hds]; exact HM3.out
        have hA1 : At (cellsLink ds) m (fun q => L.getD q (0, 0, false)) := by rw [hds, hmL]; exact At.of_list _
        have HB := Lib.hid hB
        clear hB
        have HB' := Lib.hid hB'
        clear hB'
        have Hf := Lib.hid hf
        clear hf
        have Hf0 := Lib.hid hf0
        clear hf0
        have Hfl := Lib.hid hfl
        clear hfl
        have Hds := Lib.hid hds
        clear hds
        have HmL := Lib.hid hmL
        clear hmL
        have HA1 := Lib.hid hA1
        clear hA1
        have HW := Lib.hid hW
        clear hW
        have Hmp := Lib.hid hmp
        clear hmp
        have HO := Lib.hid hO
        clear hO
        go_wp2_with fail
        refine (reverseLink_any B m d _ _ (bb + 1) _ HO.out HA1.out (by omega)).mono ?_
        rintro e w6 ⟨rfl, ys, hO6, hA6, hG6⟩
        have hW6 := HW.out.grown hG6 HW.out.size fun q hq => by have := (HO.out.lt q hq).1; omega
        have hys : ys = cellsLink L.reverse := by
          have hrl : L.reverse.length = m := by rw [List.length_reverse, ← HmL.out]
          refine hA6.all hrl (fun q hq => ?_)
          have hq2 : q < L.length := by rw [← HmL.out, ← hrl]; exact hq
          have hq3 : L.length - 1 - q < L.length := by omega
          rw [HmL.out]
          simp [hq3]
        have hrl : L.reverse.length = m := by rw [List.length_reverse, ← HmL.out]
        clear hA6 hG6
        have Hys := Lib.hid hys
        clear hys
        have HO6 := Lib.hid hO6
        clear hO6
        have HW6 := Lib.hid hW6
        clear hW6
        have Hrl := Lib.hid hrl
        clear hrl
        go_wp2_with fail
        go_ret2
        rw [E2.out, E3.out, Hrl.out, ← Hys.out]
        exact ⟨B, d, rfl, own_mono HO6.out (by omega), HW6.out⟩
      | succ k =>
        obtain ⟨j2, hj2, hfr, hfar2, hw2⟩ := sr_step Hgd.out Hwf.out hj HF.out
        have hfe : f0 = (srAt S j2).1 := by rw [hf0]; exact hw2
        have hg2 := Hgd.out.2.1 _ (srAt_word hj2)
        have hne0 : f0 ≠ ⟨#[45]⟩ := by rw [hfe]; exact good8_ne hg2
        have hne : (f0.toList == [45]) = false := by
          have h := str_eq f0 ⟨#[45]⟩
          rw [show (⟨#[45]⟩ : ByteArray).toList = [45] by rw [ByteArray.toList_eq], decide_eq_false hne0] at h
          exact h
        have hz2 := hg2.2.2
        rw [← hfe] at hz2
        have hfi : fnd (srWords S) f0 = some j2 := by rw [hfe]; exact sr_find Hgd.out hj2
        have hml : m + 1 ≤ 131072 := by omega
        have hsk : ds ++ [(f1, f2, f3)] ++ srBack S k j2 = L := by
          have h := HL1.out
          rw [srBack, hfr, Int.toNat_natCast, ← hfl] at h
          rw [List.append_assoc]; exact h
        have HB := Lib.hid hB
        clear hB
        have HB' := Lib.hid hB'
        clear hB'
        have Hf := Lib.hid hf
        clear hf
        have Hf0 := Lib.hid hf0
        clear hf0
        have Hfl := Lib.hid hfl
        clear hfl
        have HW := Lib.hid hW
        clear hW
        have Hmp := Lib.hid hmp
        clear hmp
        have HO := Lib.hid hO
        clear hO
        have Hfr := Lib.hid hfr
        clear hfr
        have Hfar2 := Lib.hid hfar2
        clear hfar2
        have Hw2 := Lib.hid hw2
        clear hw2
        have Hfe := Lib.hid hfe
        clear hfe
        have Hg2 := Lib.hid hg2
        clear hg2
        have Hfi := Lib.hid hfi
        clear hfi
        have Hsk := Lib.hid hsk
        clear hsk
        have ho := HO.out
        go_wp2_with (at_builtin; refine wpList_app3 _ wr rfl _ _ 26 rfl (bb + 1) 95 3 24 _ Try.underlying26 info_Link rfl (by omega) _ _ _ _ rfl rfl (by simp [go_sem]) ho rfl (one_cell_link1 _ _ _) (by omega) (by unfold maxLen; omega) (by omega) ?_; intro A5 c5 w5 hO5 hW5 hK5; (have hW6 := HW.out.trans (hW5.mono (by omega))); (have hB6 := HB'.out.below hW5 (by omega)); (have hm6 := map_keep Hmp.out hW5 (by omega)); (have hO6 : w5.ownsRow (bb + 1) 95 3 (.slice A5 (m + 1) c5) (m + 1) (cellsLink (ds ++ [(f1, f2, f3)])) := by rw [cellsLink_snoc1]; exact hO5); (have q0 : w5.cell? ⟨bb, 0, none⟩ = some (.string f0) := by rw [hB6.cell]; rfl); (have q6 : w5.cell? ⟨bb, 1, none⟩ = some (.int .i64 f1) := by rw [hB6.cell]; rfl); (have q7 : w5.cell? ⟨bb, 2, none⟩ = some (.int .i64 f2) := by rw [hB6.cell]; rfl); (have q8 : w5.cell? ⟨bb, 3, none⟩ = some (.bool f3) := by rw [hB6.cell]; rfl); (have q9 : w5.cell? ⟨bb, 4, none⟩ = some (.int .i64 f4) := by rw [hB6.cell]; rfl); (have q1 := hB6.free 0); (have q2 := hB6.free 1); (have q3 := hB6.free 2); (have q4 := hB6.free 3); (have q5 := hB6.free 4); (have hbl5 := hB6.lt); (obtain ⟨v1, ps1, hlk, hv1⟩ := hm6.lookup (Maps.string_keyed Try.underlying9) Try.underlying111 (zero_arr _) (arrR_mk (⟨#[]⟩, (0, 0, false), 0)) (key_str (x := f0) (by omega))); (rw [(HM.out.2 f0).2 j2 _ Hfi.out] at hv1); (have hvv := arrR_inv hv1); (obtain ⟨⟨z0, ⟨z1, z2, z3⟩, z4⟩, hzz⟩ : ∃ z, z = arrOf S j2 := ⟨_, rfl⟩); (rw [← hzz] at hvv); (subst hvv); (have hlk' : (Instr.lookup 111 (.map (some gm)) (.string f0) false).run Try.prog w5 = .ok (.agg #[.string z0, .int .i64 z1, .int .i64 z2, .bool z3, .int .i64 z4]) w5 := hlk); (have hB7 := ((((hB6.put 0 (.string z0)).put 1 (.int .i64 z1)).put 2 (.int .i64 z2)).put 3 (.bool z3)).put 4 (.int .i64 z4)); (clear hO5 ho hK5 hlk hv1); (have HW6 := Lib.hid hW6); (clear hW6); (have Hm6 := Lib.hid hm6); (clear hm6); (have HO6 := Lib.hid hO6); (clear hO6); (have HB6 := Lib.hid hB6); (clear hB6); (have HB7 := Lib.hid hB7); (clear hB7); (have Hzz := Lib.hid hzz); (clear hzz); (have HW5 := Lib.hid hW5); (clear hW5))
        have hVV := ((((((Below.refl bb w5).setCell (p := ⟨bb, 0, none⟩) (by dsimp only; omega) (.string z0)).setCell (p := ⟨bb, 1, none⟩) (by dsimp only; omega) (.int .i64 z1)).setCell (p := ⟨bb, 2, none⟩) (by dsimp only; omega) (.int .i64 z2)).setCell (p := ⟨bb, 3, none⟩) (by dsimp only; omega) (.bool z3)).setCell (p := ⟨bb, 4, none⟩) (by dsimp only; omega) (.int .i64 z4))
        have hfz : (Value.slice A5 (m + 1) c5).ownBlock ≠ some bb := fun e => by
          have := (HO6.out.lt bb e).1
          omega
        have hO7 := (own_far3 (own_far3 (own_far3 (own_far3 (own_far3 HO6.out (p := ⟨bb, 0, none⟩) hfz (.string z0)) (p := ⟨bb, 1, none⟩) hfz (.int .i64 z1)) (p := ⟨bb, 2, none⟩) hfz (.int .i64 z2)) (p := ⟨bb, 3, none⟩) hfz (.bool z3)) (p := ⟨bb, 4, none⟩) hfz (.int .i64 z4))
        have hm7 := map_keep Hm6.out hVV hgb
        have hW7 := HW6.out.trans (hVV.mono hwb)
        have hl7 : m + 1 = (ds ++ [(f1, f2, f3)]).length := by rw [List.length_append, ← HM3.out]; rfl
        clear hVV hfz
        have HO7 := Lib.hid hO7
        clear hO7
        have Hm7 := Lib.hid hm7
        clear hm7
        have HW7 := Lib.hid hW7
        clear hW7
        have Hl7 := Lib.hid hl7
        clear hl7
        go_roundw
        case rel => exact ⟨j2, k, m + 1, A5, c5, _, rfl, hj2, Hl7.out, by omega, Hfar2, Hsk, by rw [← Hzz.out]; exact HB7.out, HW7.out, Hm7.out, HO7.out⟩
        case measure => simp [slenOf] <;> omega

theorem dist_short (l : Int) (rs : List RuleT) (u v : ByteArray) (lim : Int) : distB l rs u v lim = if shOk l rs u v lim then ((shC l rs u v lim).length : Int) else -1 := by
  unfold distB shOk shC shR searched
  cases h1 : searchOk l rs lim
  · simp
  cases h2 : word15 l u lim
  · simp
  cases h3 : word15 l v lim
  · simp
  obtain ⟨hro, hg8, hl8⟩ := searched_out h1 h2
  have hgd := srAll_good hro hl8 hg8
  simp only [Bool.and_self, if_true]
  cases hf : fnd (srWords (srAll rs u lim)) v with
  | none => rfl
  | some i =>
    have hi : i < (srAll rs u lim).length := by rw [← srWords_len]; exact fnd_lt hf
    have := (hgd.2.2 i hi).1
    dsimp only
    rw [if_pos rfl, srChain_len]
    omega
set_option maxRecDepth 100000 in
set_option maxHeartbeats 1000000 in
theorem implDistanceBetween_any (l : Int) (A : Option Addr) (n c : Nat) (rs : List RuleT) (u v : ByteArray) (lim : Int) (w : World) (hr : Rd w A (cellsRule rs)) (hn : n = rs.length) (hb : n ≤ 1048576) (hz : ∀ x ∈ rs, x.1.size ≤ 1048576 ∧ x.2.size ≤ 1048576) (hs : u.size ≤ 1048576) (hv : v.size ≤ 1048576) :
    Calls Try.prog 24 #[.agg #[.int .i64 l, .slice A n c], .string u, .string v, .int .i64 lim] w (Kept w (.int .i64 (distB l rs u v lim))) := by
  have hW0 : Below w.heap.size w (w.alloc (.cells #[.int .i64 l, .slice A n c] 25)) := (Below.refl _ _).alloc (Nat.le_refl _) _
  have hS0 := Bk.new w 25 #[.int .i64 l, .slice A n c]
  have hd := dist_short l rs u v lim
  have Hr := Lib.hid hr
  clear hr
  have Hn := Lib.hid hn
  clear hn
  have Hz := Lib.hid hz
  clear hz
  have Hd := Lib.hid hd
  clear hd
  go_enter Try.func24, Try.ntmps24
  go_wp2_with fail
  with_reducible refine (implShortestChain_any l A n c rs u v lim _ (Hr.out.keep hW0) Hn.out hb Hz.out hs hv).mono ?_
  rintro e w1 ⟨B, d, rfl, hO, b1⟩
  have hW1 := hW0.trans (b1.mono hW0.size)
  clear hO b1
  have hd2 := Hd.out
  obtain ⟨k, hk⟩ : ∃ k, k = (shC l rs u v lim).length := ⟨_, rfl⟩
  obtain ⟨ok, hok⟩ : ∃ k, k = shOk l rs u v lim := ⟨_, rfl⟩
  rw [← hk, ← hok] at hd2
  rw [← hk, ← hok]
  cases ok
  · rw [if_neg (by simp)] at hd2
    have Hd2 := Lib.hid hd2
    clear hd2
    have Hk := Lib.hid hk
    clear hk
    have Hok := Lib.hid hok
    clear hok
    go_wp2_with fail
    go_ret
    exact ⟨ret_int (by rw [Hd2.out]), hW1⟩
  · rw [if_pos rfl] at hd2
    have Hd2 := Lib.hid hd2
    clear hd2
    have Hk := Lib.hid hk
    clear hk
    have Hok := Lib.hid hok
    clear hok
    go_wp2_with fail
    go_ret
    exact ⟨ret_int (by rw [Hd2.out]), hW1⟩

end Go.Proofs.Ytidmbeeadbedaaa
