/- Walks over l15Links and LinksOf of the reference, links and LinksOf of the program: both hand back the same links. -/
import Derived.Test.YtidmbeeadbedaaaChain
import Derived.Test.YtidmbeeadbedaaaMg9
namespace Go.Proofs.Ytidmbeeadbedaaa
open Go.RowKit Go.Shelf

def lkHit (rs : List RuleT) (s : ByteArray) (lim : Int) (p k : Nat) (b : Bool) : Bool := linkOk rs s ((k : Int), (p : Int), b) && decide (((linkS rs s ((k : Int), (p : Int), b)).size : Int) ≤ lim)
/-- The links at place p with rule k, of the first j directions. -/
def lkCell (rs : List RuleT) (s : ByteArray) (lim : Int) (p k j : Nat) : List LinkT := ((List.range j).filter (fun b => lkHit rs s lim p k (b == 1))).map fun b : Nat => ((k : Int), (p : Int), b == 1)
def lkRow (rs : List RuleT) (s : ByteArray) (lim : Int) (p j : Nat) : List LinkT := (List.range j).flatMap fun k => lkCell rs s lim p k 2
def lkAcc (rs : List RuleT) (s : ByteArray) (lim : Int) (i : Nat) : List LinkT := (List.range i).flatMap fun p => lkRow rs s lim p rs.length
def lkTo2 (rs : List RuleT) (s : ByteArray) (lim : Int) (p k : Nat) : List LinkT := lkAcc rs s lim p ++ lkRow rs s lim p k
def lkTo3 (rs : List RuleT) (s : ByteArray) (lim : Int) (p k j : Nat) : List LinkT := lkTo2 rs s lim p k ++ lkCell rs s lim p k j
/-- The links of a word. -/
def lkAll (rs : List RuleT) (s : ByteArray) (lim : Int) : List LinkT := lkAcc rs s lim (s.size + 1)
theorem lkTo3_zero (rs : List RuleT) (s : ByteArray) (lim : Int) (p k : Nat) : lkTo3 rs s lim p k 0 = lkTo2 rs s lim p k := by simp [lkTo3, lkCell]
theorem lkTo2_zero (rs : List RuleT) (s : ByteArray) (lim : Int) (p : Nat) : lkTo2 rs s lim p 0 = lkAcc rs s lim p := by simp [lkTo2, lkRow]
theorem lkTo2_succ (rs : List RuleT) (s : ByteArray) (lim : Int) (p k : Nat) : lkTo2 rs s lim p (k + 1) = lkTo3 rs s lim p k 2 := by
  rw [lkTo3, lkTo2, lkTo2, List.append_assoc]
  congr 1
  rw [lkRow, List.range_succ, List.flatMap_append]; simp [lkRow]
theorem lkAcc_succ (rs : List RuleT) (s : ByteArray) (lim : Int) (p : Nat) : lkAcc rs s lim (p + 1) = lkTo2 rs s lim p rs.length := by
  rw [lkAcc, List.range_succ, List.flatMap_append, lkTo2]; simp [lkAcc]
theorem lkTo3_yes {rs : List RuleT} {s : ByteArray} {lim : Int} {p k j : Nat} (h : lkHit rs s lim p k (j == 1) = true) : lkTo3 rs s lim p k (j + 1) = lkTo3 rs s lim p k j ++ [((k : Int), (p : Int), j == 1)] := by
  rw [lkTo3, lkTo3, List.append_assoc]
  congr 1
  rw [lkCell, List.range_succ, List.filter_append, List.map_append]; simp [lkCell, h]
theorem lkTo3_no {rs : List RuleT} {s : ByteArray} {lim : Int} {p k j : Nat} (h : lkHit rs s lim p k (j == 1) = false) : lkTo3 rs s lim p k (j + 1) = lkTo3 rs s lim p k j := by
  rw [lkTo3, lkTo3]
  congr 1
  rw [lkCell, List.range_succ, List.filter_append, List.map_append]; simp [lkCell, h]
theorem lkCell_len (rs : List RuleT) (s : ByteArray) (lim : Int) (p k j : Nat) : (lkCell rs s lim p k j).length ≤ j := by
  rw [lkCell, List.length_map]
  exact Nat.le_trans (List.length_filter_le _ _) (by simp)
theorem lkRow_len (rs : List RuleT) (s : ByteArray) (lim : Int) (p j : Nat) : (lkRow rs s lim p j).length ≤ j * 2 := by
  induction j with
  | zero => simp [lkRow]
  | succ j ih =>
    have e : lkRow rs s lim p (j + 1) = lkRow rs s lim p j ++ lkCell rs s lim p j 2 := by rw [lkRow, List.range_succ, List.flatMap_append]; simp [lkRow]
    rw [e, List.length_append]
    have := lkCell_len rs s lim p j 2
    omega
theorem lkAcc_len (rs : List RuleT) (s : ByteArray) (lim : Int) (i : Nat) (hr : rs.length ≤ 12) : (lkAcc rs s lim i).length ≤ i * 24 := by
  induction i with
  | zero => simp [lkAcc]
  | succ i ih =>
    rw [lkAcc_succ, lkTo2, List.length_append]
    have := lkRow_len rs s lim i rs.length
    omega
theorem lkTo3_len (rs : List RuleT) (s : ByteArray) (lim : Int) (p k j : Nat) (hr : rs.length ≤ 12) (hk : k ≤ 12) (hj : j ≤ 2) : (lkTo3 rs s lim p k j).length ≤ p * 24 + 26 := by
  rw [lkTo3, lkTo2, List.length_append, List.length_append]
  have h1 := lkAcc_len rs s lim p hr
  have h2 := lkRow_len rs s lim p k
  have h3 := lkCell_len rs s lim p k j
  omega
theorem cellsLink_snoc (xs : List LinkT) (a b : Int) (c : Bool) : cellsLink (xs ++ [(a, b, c)]) = cellsLink xs ++ [.int .i64 a, .int .i64 b, .bool c] := by simp [cellsLink, encLink]
theorem one_cell_link (a b : Int) (c : Bool) : ∀ u ∈ (#[Value.int .i64 a, Value.int .i64 b, Value.bool c] : Array Value).toList, u.oneCell' = true := by
  intro u hu
  simp at hu
  rcases hu with rfl | rfl | rfl <;> rfl
def loOk (l : Int) (rs : List RuleT) (s : ByteArray) (lim : Int) : Bool := searchOk l rs lim && wordOk l s
/-- LinksOf, in plain words. -/
def loL (l : Int) (rs : List RuleT) (s : ByteArray) (lim : Int) : List LinkT := if loOk l rs s lim then lkAll rs s lim else []
theorem lo_out {l : Int} {rs : List RuleT} {s : ByteArray} {lim : Int} (h : loOk l rs s lim = true) : rulesOk l rs = true ∧ s.size ≤ 16 := by
  unfold loOk searchOk at h
  simp only [Bool.and_eq_true] at h
  exact ⟨h.1.1.1, (wordOk_out h.2).2.2.1⟩
theorem lkAll_len {l : Int} {rs : List RuleT} {s : ByteArray} {lim : Int} (h : rulesOk l rs = true) (hs : s.size ≤ 16) : (lkAll rs s lim).length ≤ 408 := by
  have := lkAcc_len rs s lim (s.size + 1) (rulesOk_12 h)
  unfold lkAll
  omega
set_option maxRecDepth 100000 in
set_option maxHeartbeats 4000000 in
theorem implLinks_any (l : Int) (A : Option Addr) (n c : Nat) (rs : List RuleT) (s : ByteArray) (lim : Int) (w : World) (hr : Rd w A (cellsRule rs)) (hn : n = rs.length) (hb : n ≤ 1048576) (hz : ∀ x ∈ rs, x.1.size ≤ 1048576 ∧ x.2.size ≤ 1048576) (hro : rulesOk l rs = true) (hs : s.size ≤ 16) :
    Calls Try.prog 88 #[.agg #[.int .i64 l, .slice A n c], .string s, .int .i64 lim] w (MadeSl w 95 3 (lkAll rs s lim).length (cellsLink (lkAll rs s lim))) := by
  have hW0 : Below w.heap.size w (w.alloc (.cells #[.int .i64 l, .slice A n c] 25)) := (Below.refl _ _).alloc (Nat.le_refl _) _
  have hS0 := Bk.new w 25 #[.int .i64 l, .slice A n c]
  have h12 : n ≤ 12 := by rw [hn]; exact rulesOk_12 hro
  have Hr := Lib.hid hr
  clear hr
  have Hn := Lib.hid hn
  clear hn
  have Hz := Lib.hid hz
  clear hz
  have Hro := Lib.hid hro
  clear hro
  have HS0 := Lib.hid hS0
  clear hS0
  have HW0 := Lib.hid hW0
  clear hW0
  go_enter Try.func88, Try.ntmps88
  go_wp2_with fail
  go_loopw [7, 18] (fun v i wr => ∃ (q : Nat) (B : Option Addr) (d m : Nat), q ≤ s.size + 1 ∧ i = .int .i64 q ∧ v = .slice B m d ∧ Hid (m = (lkAcc rs s lim q).length) ∧ Bk wr w.heap.size 25 #[.int .i64 l, .slice A n c] ∧ wr.ownsRow (w.heap.size + 1) 95 3 (.slice B m d) m (cellsLink (lkAcc rs s lim q)) ∧ Below w.heap.size w wr) (fun _ i _ => s.size + 1 - (intOf i).toNat)
  case atStart => exact ⟨0, none, 0, 0, Nat.zero_le _, rfl, rfl, rfl, HS0.out, World.ownsRow_nil _ _ _ _, HW0.out⟩
  case round =>
    clear HS0 HW0
    obtain ⟨p, B, d, m, hp, rfl, rfl, HM, hS0, hown, hW0⟩ := hrel
    by_cases hlt : p < s.size + 1
    · have hle : p ≤ s.size := by omega
      have hle2 : (p : Int) ≤ (s.size : Int) := by omega
      have hle3 : (p : Int) < (s.size : Int) + 1 := by omega
      have s0_0 : wr.cell? ⟨w.heap.size, 0, none⟩ = some (.int .i64 l) := by rw [hS0.cell]; rfl
      have s1_0 : wr.cell? ⟨w.heap.size, 1, none⟩ = some (.slice A n c) := by rw [hS0.cell]; rfl
      have sl_0 := hS0.lt
      have Hown := Lib.hid hown
      clear hown
      go_wp2_with fail
      go_loopw [7, 24] (fun v i wr => ∃ (q : Nat) (B : Option Addr) (d m : Nat), q ≤ n ∧ i = .int .i64 q ∧ v = .slice B m d ∧ Hid (m = (lkTo2 rs s lim p q).length) ∧ Bk wr w.heap.size 25 #[.int .i64 l, .slice A n c] ∧ wr.ownsRow (w.heap.size + 1) 95 3 (.slice B m d) m (cellsLink (lkTo2 rs s lim p q)) ∧ Below w.heap.size w wr) (fun _ i _ => n - (intOf i).toNat)
      case atStart => exact ⟨0, B, d, m, Nat.zero_le _, rfl, rfl, by unfold Hid; rw [lkTo2_zero]; exact HM.out, hS0, by rw [lkTo2_zero]; exact Hown.out, hW0⟩
      case round =>
        clear hS0 hW0 s0_0 s1_0 sl_0 HM Hown
        obtain ⟨k, B, d, m, hk, rfl, rfl, HM, hS0, hown, hW0⟩ := hrel
        by_cases hltk : k < n
        · have hG := Bk.new wr 4 #[.bool false, .bool true]
          have hSg := hS0.alloc (.cells #[.bool false, .bool true] 4)
          have hog := own_keep hown ((Below.refl _ wr).alloc (Nat.le_refl _) (.cells #[.bool false, .bool true] 4)) (Nat.le_refl _)
          have hWg := hW0.alloc hW0.size (.cells #[.bool false, .bool true] 4)
          have hgl := hS0.lt
          obtain ⟨g, hg⟩ : ∃ g, g = wr.heap.size := ⟨_, rfl⟩
          rw [← hg] at hG hgl
          have HG := Lib.hid hG
          clear hG
          have HSg := Lib.hid hSg
          clear hSg
          have Hog := Lib.hid hog
          clear hog
          have HWg := Lib.hid hWg
          clear hWg
          have Hg := Lib.hid hg
          clear hg
          have Hown := Lib.hid hown
          clear hown
          have HS0 := Lib.hid hS0
          clear hS0
          have HW0 := Lib.hid hW0
          clear hW0
          go_wp2_with fail
          rw [← Hg.out]
          go_loopw [7, 29] (fun v i wr => ∃ (q : Nat) (B : Option Addr) (d m : Nat), q ≤ 2 ∧ i = .int .i64 q ∧ v = .slice B m d ∧ Hid (m = (lkTo3 rs s lim p k q).length) ∧ Bk wr w.heap.size 25 #[.int .i64 l, .slice A n c] ∧ wr.ownsRow (w.heap.size + 1) 95 3 (.slice B m d) m (cellsLink (lkTo3 rs s lim p k q)) ∧ Bk wr g 4 #[.bool false, .bool true] ∧ w.heap.size < g ∧ Below w.heap.size w wr) (fun _ i _ => 2 - (intOf i).toNat)
          case atStart => exact ⟨0, B, d, m, Nat.zero_le _, rfl, rfl, by unfold Hid; rw [lkTo3_zero]; exact HM.out, HSg.out, by rw [lkTo3_zero]; exact Hog.out, HG.out, hgl, HWg.out⟩
          case round =>
            clear HM HG HSg Hog HWg Hg HS0 HW0 Hown
            obtain ⟨j, B, d, m, hj, rfl, rfl, HM, hS0, hown, hG, hgl, hW0⟩ := hrel
            by_cases hltj : j < 2
            · have hk2 : k < rs.length := by rw [← Hn.out]; exact hltk
              have hml : m ≤ p * 24 + 26 := by rw [HM.out]; exact lkTo3_len rs s lim p k j (by rw [← Hn.out]; exact h12) (by omega) (by omega)
              have hbc : wr.cell? ⟨g, j, none⟩ = some (.bool (j == 1)) := by rw [hG.cell]; rcases (show j = 0 ∨ j = 1 by omega) with rfl | rfl <;> rfl
              have hgl2 := hG.lt
              obtain ⟨bb, hbb⟩ : ∃ bb, bb = (j == 1) := ⟨_, rfl⟩
              have hin : inB (k : Int) 0 ((rs.length : Int) - 1) = true := by unfold inB; rw [decide_eq_true (by omega), decide_eq_true (by omega)]; rfl
              obtain ⟨nx, hnx⟩ : ∃ nx, nx = linkS rs s ((k : Int), (p : Int), bb) := ⟨_, rfl⟩
              obtain ⟨no, hno⟩ : ∃ no, no = linkOk rs s ((k : Int), (p : Int), bb) := ⟨_, rfl⟩
              have hhit : lkHit rs s lim p k (j == 1) = (no && decide ((nx.size : Int) ≤ lim)) := by rw [lkHit, ← hbb, ← hnx, ← hno]
              have hnsz : nx.size ≤ 16 := by rw [hnx, ← (al_yes Hro.out).2]; exact alS_size l rs s _
              rw [← hbb] at hbc
              have hWa := hW0.alloc hW0.size (.cells #[.int .i64 (k : Int), .int .i64 (p : Int), .bool bb] 95)
              have hSa := hS0.alloc (.cells #[.int .i64 (k : Int), .int .i64 (p : Int), .bool bb] 95)
              have hXa := Bk.new wr 95 #[.int .i64 (k : Int), .int .i64 (p : Int), .bool bb]
              have hoa := own_keep hown ((Below.refl _ wr).alloc (Nat.le_refl _) (.cells #[.int .i64 (k : Int), .int .i64 (p : Int), .bool bb] 95)) (Nat.le_refl _)
              have hGa := hG.alloc (.cells #[.int .i64 (k : Int), .int .i64 (p : Int), .bool bb] 95)
              have s0 : wr.cell? ⟨w.heap.size, 0, none⟩ = some (.int .i64 l) := by rw [hS0.cell]; rfl
              have s1 : wr.cell? ⟨w.heap.size, 1, none⟩ = some (.slice A n c) := by rw [hS0.cell]; rfl
              have sl := hS0.lt
              clear hown hS0 hW0
              have Hbb := Lib.hid hbb
              clear hbb
              have Hnx := Lib.hid hnx
              clear hnx
              have Hno := Lib.hid hno
              clear hno
              have Hhit := Lib.hid hhit
              clear hhit
              have HWa := Lib.hid hWa
              clear hWa
              have HSa := Lib.hid hSa
              clear hSa
              have HXa := Lib.hid hXa
              clear hXa
              have Hoa := Lib.hid hoa
              clear hoa
              have Hin := Lib.hid hin
              clear hin
              have HGa := Lib.hid hGa
              clear hGa hG
              go_wp2_with fail
              with_reducible refine (implLink_any l A n c rs s (k : Int) (p : Int) bb _ (Hr.out.keep HWa.out) Hn.out hb Hz.out (by omega) Hin.out).mono ?_
              rintro e w3 ⟨rfl, b3⟩
              skip
              rw [← Hnx.out, ← Hno.out]
              have hW3 := HWa.out.trans (b3.mono HWa.out.size)
              have hS3 := HSa.out.below b3 HSa.out.lt
              have hX3 := HXa.out.below b3 HXa.out.lt
              have ho3 := own_keep Hoa.out b3 (Nat.le_refl _)
              have hG3 := HGa.out.below b3 HGa.out.lt
              clear HGa
              have x0 : w3.cell? ⟨wr.heap.size, 0, none⟩ = some (.int .i64 (k : Int)) := by rw [hX3.cell]; rfl
              have x1 : w3.cell? ⟨wr.heap.size, 1, none⟩ = some (.int .i64 (p : Int)) := by rw [hX3.cell]; rfl
              have x2 : w3.cell? ⟨wr.heap.size, 2, none⟩ = some (.bool bb) := by rw [hX3.cell]; rfl
              have xl := hX3.lt
              have sl3 := hS3.lt
              clear b3 HWa HSa HXa Hoa s0 s1 sl hX3
              cases hall : no && decide ((nx.size : Int) ≤ lim)
              · have hh : lkHit rs s lim p k (j == 1) = false := by rw [Hhit.out, hall]
                have Hh := Lib.hid hh
                clear hh
                have Ho3 := Lib.hid ho3
                clear ho3
                have HS3 := Lib.hid hS3
                clear hS3
                cases no
                · go_wp2_with fail
                  go_roundw
                  case rel => exact ⟨j + 1, B, d, m, by omega, by go_num, rfl, by unfold Hid; rw [lkTo3_no Hh.out]; exact HM.out, HS3.out, by rw [lkTo3_no Hh.out]; exact Ho3.out, hG3, hgl, hW3⟩
                  case measure => simp [intOf] <;> omega
                · have hnl : ¬ ((nx.size : Int) ≤ lim) := by simpa using hall
                  clear hall
                  go_wp2_with fail
                  go_roundw
                  case rel => exact ⟨j + 1, B, d, m, by omega, by go_num, rfl, by unfold Hid; rw [lkTo3_no Hh.out]; exact HM.out, HS3.out, by rw [lkTo3_no Hh.out]; exact Ho3.out, hG3, hgl, hW3⟩
                  case measure => simp [intOf] <;> omega
              · have hh : lkHit rs s lim p k (j == 1) = true := by rw [Hhit.out, hall]
                rw [Bool.and_eq_true, decide_eq_true_eq] at hall
                obtain ⟨hn1, hnl⟩ := hall
                subst hn1
                have Hh := Lib.hid hh
                clear hh
                have HS3 := Lib.hid hS3
                clear hS3
                go_wp2_with (at_builtin; refine wpList_app1g _ w3 rfl _ _ 26 rfl (w.heap.size + 1) 95 3 24 _ Try.underlying26 info_Link rfl (by omega) _ _ _ _ rfl rfl rfl ho3 rfl (one_cell_link _ _ _) (by omega) (by unfold maxLen; omega) (by omega) ?_; intro A5 c5 w5 hO5 hW5 hK5)
                have hW6 := hW3.trans (hW5.mono (by omega))
                have hS6 := HS3.out.below hW5 (by omega)
                have hO6 : w5.ownsRow (w.heap.size + 1) 95 3 (.slice A5 (m + 1) c5) (m + 1) (cellsLink (lkTo3 rs s lim p k (j + 1))) := by rw [lkTo3_yes Hh.out, cellsLink_snoc, ← Hbb.out]; exact hO5
                have hG6 := hK5 _ _ _ hG3 (own_bk_ne ho3 hG3 (by decide))
                clear hG3
                clear hO5 ho3 hK5
                go_wp2_with fail
                go_roundw
                case rel => exact ⟨j + 1, A5, c5, m + 1, by omega, by go_num, rfl, by unfold Hid; rw [lkTo3_yes Hh.out, List.length_append, HM.out]; rfl, hS6, hO6, hG6, hgl, hW6⟩
                case measure => simp [intOf] <;> omega
            · have : j = 2 := by omega
              subst this
              have Hown := Lib.hid hown
              clear hown
              have HG := Lib.hid hG
              clear hG
              go_wp2_with fail
              go_roundw
              case rel => exact ⟨k + 1, B, d, m, by omega, by go_num, rfl, by unfold Hid; rw [lkTo2_succ]; exact HM.out, hS0, by rw [lkTo2_succ]; exact Hown.out, hW0⟩
              case measure => simp [intOf] <;> omega
        · have : k = n := by omega
          subst this
          have Hown := Lib.hid hown
          clear hown
          go_wp2_with fail
          go_roundw
          case rel => exact ⟨p + 1, B, d, m, by omega, by go_num, rfl, by unfold Hid; rw [lkAcc_succ, ← Hn.out]; exact HM.out, hS0, by rw [lkAcc_succ, ← Hn.out]; exact Hown.out, hW0⟩
          case measure => simp [intOf] <;> omega
    · have : p = s.size + 1 := by omega
      subst this
      have hE : lkAll rs s lim = lkAcc rs s lim (s.size + 1) := rfl
      have HE := Lib.hid hE
      clear hE
      go_wp2_with fail
      go_ret
      rw [HE.out, ← HM.out]
      exact ⟨_, _, rfl, own_mono hown (by omega), hW0⟩


set_option maxRecDepth 100000 in
set_option maxHeartbeats 1000000 in
theorem implLinksOf_any (l : Int) (A : Option Addr) (n c : Nat) (rs : List RuleT) (s : ByteArray) (lim : Int) (w : World) (hr : Rd w A (cellsRule rs)) (hn : n = rs.length) (hb : n ≤ 1048576) (hz : ∀ x ∈ rs, x.1.size ≤ 1048576 ∧ x.2.size ≤ 1048576) (hs : s.size ≤ 1048576) :
    Calls Try.prog 28 #[.agg #[.int .i64 l, .slice A n c], .string s, .int .i64 lim] w (MadeSl w 95 3 (loL l rs s lim).length (cellsLink (loL l rs s lim))) := by
  have hW0 : Below w.heap.size w (w.alloc (.cells #[.int .i64 l, .slice A n c] 25)) := (Below.refl _ _).alloc (Nat.le_refl _) _
  have hS0 := Bk.new w 25 #[.int .i64 l, .slice A n c]
  have Hr := Lib.hid hr
  clear hr
  have Hn := Lib.hid hn
  clear hn
  have Hz := Lib.hid hz
  clear hz
  go_enter Try.func28, Try.ntmps28
  go_wp2_with fail
  with_reducible refine (implSearchOk_any l A n c rs lim _ (Hr.out.keep hW0) Hn.out hb Hz.out).mono ?_
  rintro e w1 ⟨rfl, b1⟩
  have hW1 := hW0.trans (b1.mono hW0.size)
  have hS1 := hS0.below b1 hS0.lt
  have s0_1 : w1.cell? ⟨w.heap.size, 0, none⟩ = some (.int .i64 l) := by rw [hS1.cell]; rfl
  have s1_1 : w1.cell? ⟨w.heap.size, 1, none⟩ = some (.slice A n c) := by rw [hS1.cell]; rfl
  have sl_1 := hS1.lt
  clear b1
  obtain ⟨r1, hrr⟩ : ∃ r', r' = (searchOk l rs lim) := ⟨_, rfl⟩
  rw [← hrr]
  have H1 := Lib.hid hrr
  clear hrr
  cases r1
  · have e1 : loL l rs s lim = [] := by rw [loL, loOk, ← H1.out]; rfl
    have E1 := Lib.hid e1
    clear e1
    go_wp2_with fail
    go_ret
    rw [E1.out]
    exact ⟨_, _, rfl, World.ownsRow_nil _ _ _ _, hW1⟩
  go_wp2_with fail
  refine (implWord_any l s _ (by omega)).mono ?_
  rintro e w2 ⟨rfl, rfl⟩
  obtain ⟨r2, hrr⟩ : ∃ r', r' = (wordOk l s) := ⟨_, rfl⟩
  rw [← hrr]
  have H2 := Lib.hid hrr
  clear hrr
  cases r2
  · have e1 : loL l rs s lim = [] := by rw [loL, loOk, ← H2.out, Bool.and_false]; rfl
    have E1 := Lib.hid e1
    clear e1
    go_wp2_with fail
    go_ret
    rw [E1.out]
    exact ⟨_, _, rfl, World.ownsRow_nil _ _ _ _, hW1⟩
  have ho : loOk l rs s lim = true := by rw [loOk, ← H1.out, ← H2.out]; rfl
  obtain ⟨hro, hs16⟩ := lo_out ho
  have e1 : loL l rs s lim = lkAll rs s lim := by rw [loL, ho]; rfl
  have E1 := Lib.hid e1
  clear e1
  have Ho := Lib.hid ho
  clear ho
  have Hro := Lib.hid hro
  clear hro
  go_wp2_with fail
  refine (implLinks_any l A n c rs s lim _ (Hr.out.keep hW1) Hn.out hb Hz.out Hro.out hs16).mono ?_
  rintro e w3 ⟨B, d, rfl, hO, b3⟩
  obtain ⟨L, hL⟩ : ∃ L, L = lkAll rs s lim := ⟨_, rfl⟩
  rw [← hL] at hO ⊢
  obtain ⟨m, hm⟩ : ∃ m, m = L.length := ⟨_, rfl⟩
  rw [← hm] at hO ⊢
  have HL := Lib.hid hL
  clear hL
  have Hm := Lib.hid hm
  clear hm
  have HO := Lib.hid hO
  clear hO
  go_wp2_with fail
  go_ret
  rw [E1.out, ← HL.out, ← Hm.out]
  exact ⟨_, _, rfl, own_mono HO.out hW1.size, hW1.trans (b3.mono hW1.size)⟩

end Go.Proofs.Ytidmbeeadbedaaa
