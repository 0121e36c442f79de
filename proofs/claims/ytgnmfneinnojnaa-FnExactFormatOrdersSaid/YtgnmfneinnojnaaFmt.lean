/- Walks over dotted, l03Side, Join of the reference and FormatOrders of both: both give the same text. -/
import Derived.Test.YtgnmfneinnojnaaOrder
import Derived.Test.YtgnmfneinnojnaaStr
import Derived.Test.YtgnmfneinnojnaaApp2
import Derived.Test.YtgnmfneinnojnaaApp3
import Derived.Deep.RegionLaw
import Derived.Lib.Join
namespace Go.Proofs.Ytgnmfneinnojnaa
open Go.RowKit Go.Shelf

def dot (s : ByteArray) : ByteArray := if s = ⟨#[]⟩ then ⟨#[46]⟩ else s
def markO (b : Bool) : ByteArray := if b then ⟨#[33]⟩ else ⟨#[62]⟩
def fmtO (o : OrderT) : ByteArray := (dot o.1 ++ markO o.2.2) ++ dot o.2.1
theorem one_cell_strF (x : ByteArray) : ∀ u ∈ (#[Value.string x] : Array Value).toList, u.oneCell' = true := by
  intro u hu
  simp at hu
  subst hu
  rfl
theorem rd_StrG {w : World} {A : Option Addr} {xs : List ByteArray} (h : Rd w A (strs xs)) {k : Nat} (hk : k < xs.length) : ∃ b off, A = some ⟨b, off, none⟩ ∧ b < w.heap.size ∧ w.cell? ⟨b, off + k, none⟩ = some (.string xs[k]) := by
  have f0 := strs_get xs k hk
  obtain ⟨b, off, e, hb, hc⟩ := h (by intro e; rw [e] at f0; cases f0)
  exact ⟨b, off, e, hb, hc k _ f0⟩
/-- The words with a separator between them. -/
def jn (xs : List ByteArray) (sep : ByteArray) : ByteArray := ⟨(Lib.join (xs.map (·.data.toList)) sep.data.toList).toArray⟩
def spc : ByteArray := ⟨#[32]⟩
/-- FormatOrders, in plain words. -/
def fmtS (xs : List OrderT) : ByteArray := if xs.length = 0 then ⟨#[45]⟩ else jn (xs.map fmtO) spc
theorem dot_size {s : ByteArray} {k : Nat} (h : s.size ≤ k) (hk : 1 ≤ k) : (dot s).size ≤ k := by
  unfold dot
  split
  · exact hk
  · exact h
theorem mark_size (b : Bool) : (markO b).size = 1 := by cases b <;> rfl
theorem fmtO_size {o : OrderT} (h0 : o.1.size ≤ 1048576) (h1 : o.2.1.size ≤ 1048576) : (fmtO o).size ≤ 2097153 := by
  have a := dot_size h0 (by omega)
  have b := dot_size h1 (by omega)
  have c := mark_size o.2.2
  rw [fmtO, ByteArray.size_append, ByteArray.size_append]
  omega
theorem ba_eq {a b : ByteArray} (h : a.data.toList = b.data.toList) : a = b := by
  cases a; cases b; simp_all
theorem jn_one (x sep : ByteArray) : jn [x] sep = x := by
  apply ba_eq
  rw [jn, List.map_cons, List.map_nil, Lib.join_one]
theorem joinTail_app (sep : List UInt8) (r s : List (List UInt8)) : Lib.joinTail sep (r ++ s) = Lib.joinTail sep r ++ Lib.joinTail sep s := by simp [Lib.joinTail]
theorem jn_snoc {xs : List ByteArray} (h : xs ≠ []) (x sep : ByteArray) : jn (xs ++ [x]) sep = (jn xs sep ++ sep) ++ x := by
  cases xs with
  | nil => exact absurd rfl h
  | cons y r =>
    apply ba_eq
    simp only [jn, List.cons_append, List.map_cons, List.map_append, Lib.join_cons, joinTail_app, ByteArray.data_append, Array.toList_append, List.toList_toArray]
    simp [Lib.joinTail]
theorem tail_len {sep : List UInt8} {K : Nat} (hs : sep.length = 1) : ∀ {r : List (List UInt8)}, (∀ x ∈ r, x.length ≤ K) → (Lib.joinTail sep r).length ≤ r.length * (K + 1)
  | [], _ => by simp [Lib.joinTail]
  | x :: r, h => by
    have ih := tail_len hs (r := r) (fun y hy => h y (List.mem_cons_of_mem _ hy))
    have hx := h x (List.mem_cons_self)
    have e : Lib.joinTail sep (x :: r) = (sep ++ x) ++ Lib.joinTail sep r := by simp [Lib.joinTail]
    rw [e, List.length_append, List.length_append, List.length_cons, Nat.add_mul, Nat.one_mul]
    omega
theorem jn_len {xs : List ByteArray} {K : Nat} (h : ∀ x ∈ xs, x.size ≤ K) : (Lib.join (xs.map (·.data.toList)) spc.data.toList).length ≤ xs.length * (K + 1) := by
  cases xs with
  | nil => simp [Lib.join_nil]
  | cons y r =>
    rw [List.map_cons, Lib.join_cons, List.length_append]
    have h1 := tail_len (sep := spc.data.toList) (K := K) rfl (r := r.map (·.data.toList)) (by
      intro z hz
      obtain ⟨u, hu, rfl⟩ := List.mem_map.1 hz
      exact h u (List.mem_cons_of_mem _ hu))
    have h2 : y.data.toList.length ≤ K := h y (List.mem_cons_self)
    rw [List.length_map] at h1
    rw [List.length_cons, Nat.add_mul, Nat.one_mul]
    omega

set_option maxRecDepth 100000 in
theorem implDot_any (s : ByteArray) (w : World) : Calls Try.prog 72 #[.string s] w (fun e w' => e = .returned (.string (dot s)) ∧ w' = w) := by
  have hq : s.toList.isEmpty = decide (s = ⟨#[]⟩) := by
    rw [← str_eq, show (⟨#[]⟩ : ByteArray).toList = [] by rw [ByteArray.toList_eq]]
    cases s.toList <;> rfl
  go_enter Try.func72, Try.ntmps72
  by_cases h : s = ⟨#[]⟩
  · rw [decide_eq_true h] at hq
    have e1 : dot s = ⟨#[46]⟩ := if_pos h
    rw [e1]
    clear h
    go_wp2_with fail
    go_ret
    exact ⟨rfl, rfl⟩
  · rw [decide_eq_false h] at hq
    have e1 : dot s = s := if_neg h
    rw [e1]
    clear h
    go_wp2_with fail
    go_ret
    exact ⟨rfl, rfl⟩

set_option maxRecDepth 100000 in
theorem specDot_any (s : ByteArray) (w : World) : Calls Try.prog 69 #[.string s] w (fun e w' => e = .returned (.string (dot s)) ∧ w' = w) := by
  have hq : s.toList.isEmpty = decide (s = ⟨#[]⟩) := by
    rw [← str_eq, show (⟨#[]⟩ : ByteArray).toList = [] by rw [ByteArray.toList_eq]]
    cases s.toList <;> rfl
  go_enter Try.func69, Try.ntmps69
  by_cases h : s = ⟨#[]⟩
  · rw [decide_eq_true h] at hq
    have e1 : dot s = ⟨#[46]⟩ := if_pos h
    rw [e1]
    clear h
    go_wp2_with fail
    go_ret
    exact ⟨rfl, rfl⟩
  · rw [decide_eq_false h] at hq
    have e1 : dot s = s := if_neg h
    rw [e1]
    clear h
    go_wp2_with fail
    go_ret
    exact ⟨rfl, rfl⟩

set_option maxRecDepth 100000 in
set_option maxHeartbeats 1000000 in
theorem specJoin_any (A : Option Addr) (n c : Nat) (ws : List ByteArray) (w : World) (hr : Rd w A (strs ws)) (hn : n = ws.length) (hb : n ≤ 1048576) (hz : ∀ x ∈ ws, x.size ≤ 2097153) :
    Calls Try.prog 70 #[.slice A n c, .string spc] w (fun e w' => e = .returned (.string (jn ws spc)) ∧ w' = w) := by
  have hsp : spc.size = 1 := rfl
  obtain ⟨sp, hspe⟩ : ∃ sp, sp = spc := ⟨_, rfl⟩
  rw [← hspe] at hsp ⊢
  have Hr := Lib.hid hr
  clear hr
  have Hn := Lib.hid hn
  clear hn
  have Hz := Lib.hid hz
  clear hz
  have Hspe := Lib.hid hspe
  clear hspe
  go_enter Try.func70, Try.ntmps70
  go_wp2_with fail
  go_loopw [5, 10] (fun v i wr => ∃ (j : Nat) (cur : ByteArray), j ≤ n ∧ v = .string cur ∧ i = .int .i64 j ∧ Hid (cur = jn (ws.take j) sp) ∧ cur.size ≤ j * 2097154 ∧ wr = w) (fun _ i _ => n - (intOf i).toNat)
  case atStart => exact ⟨0, ⟨#[]⟩, Nat.zero_le _, rfl, rfl, Lib.hid rfl, Nat.zero_le _, rfl⟩
  case round =>
    obtain ⟨j, cur, hj, rfl, rfl, HC, hcz, rfl⟩ := hrel
    by_cases hlt : j < n
    · have hj2 : j < ws.length := by rw [← Hn.out]; exact hlt
      obtain ⟨b, o, hA, hbl, p0⟩ := rd_StrG Hr.out hj2
      obtain ⟨x, hx⟩ : ∃ x, x = ws[j] := ⟨_, rfl⟩
      have hxz : x.size ≤ 2097153 := by rw [hx]; exact Hz.out _ (List.getElem_mem hj2)
      have htk : ws.take (j + 1) = ws.take j ++ [x] := by rw [hx]; exact List.take_succ_eq_append_getElem hj2
      rw [← hx] at p0
      subst hA
      by_cases h0 : j = 0
      · have hc0 : cur = ⟨#[]⟩ := by rw [HC.out, h0]; rfl
        have hnx : cur ++ x = jn (ws.take (j + 1)) sp := by
          rw [htk, h0, show ws.take 0 ++ [x] = [x] from rfl, jn_one, hc0]
          apply ba_eq
          simp [ByteArray.data_append]
        have hcs : cur.size = 0 := by rw [hc0]; rfl
        have hsz1 : (cur ++ x).size ≤ (j + 1) * 2097154 := by rw [ByteArray.size_append, hcs, Nat.add_mul]; omega
        have hj0 : ¬ (0 : Int) < (j : Int) := by omega
        clear h0 hcz
        have Hx := Lib.hid hx
        clear hx
        have Htk := Lib.hid htk
        clear htk
        have Hnx := Lib.hid hnx
        clear hnx
        have Hsz1 := Lib.hid hsz1
        clear hsz1
        have Hc0 := Lib.hid hc0
        clear hc0
        go_wp2_with fail
        go_roundw
        case rel => exact ⟨j + 1, cur ++ x, by omega, rfl, by go_num, Hnx, Hsz1.out, by first | rfl | trivial⟩
        case measure => simp [intOf] <;> omega
      · have hne : ws.take j ≠ [] := by
          intro e
          have := congrArg List.length e
          rw [List.length_take, List.length_nil] at this
          omega
        have hnx : (cur ++ sp) ++ x = jn (ws.take (j + 1)) sp := by rw [htk, jn_snoc hne, ← HC.out]
        have hs1 : (cur ++ sp).size = cur.size + 1 := by rw [ByteArray.size_append, hsp]
        have hs2 : ((cur ++ sp) ++ x).size ≤ (j + 1) * 2097154 := by rw [ByteArray.size_append, hs1, Nat.add_mul]; omega
        have hj0 : 0 < j := by omega
        have Hx := Lib.hid hx
        clear hx
        have Htk := Lib.hid htk
        clear htk
        have Hnx := Lib.hid hnx
        clear hnx
        have Hs2 := Lib.hid hs2
        clear hs2
        go_wp2_with fail
        go_roundw
        case rel => exact ⟨j + 1, (cur ++ sp) ++ x, by omega, rfl, by go_num, Hnx, Hs2.out, by first | rfl | trivial⟩
        case measure => simp [intOf] <;> omega
    · have : j = n := by omega
      subst this
      have hT : ws.take j = ws := List.take_of_length_le (by rw [← Hn.out]; exact Nat.le_refl _)
      rw [hT] at HC
      go_wp2_with fail
      go_ret
      exact ⟨by rw [HC.out, Hspe.out]; rfl, by first | rfl | trivial⟩

theorem own_capF {w : World} {base : Nat} {t : TypeId} {m n c : Nat} {A : Option Addr} {xs : List Value} (h : w.ownsRow base t m (.slice A n c) n xs) : n ≤ c := by
  rcases h.2 with ⟨h1, h2⟩ | ⟨g, cap, cur, hv, _, _, hc, _⟩
  · injection h1 with _ h3 h4; omega
  · injection hv with _ _ h4
    omega

theorem own_drewF {w : World} {base : Nat} {t : TypeId} {m n : Nat} {v : Value} {xs : List Value} (h : w.ownsRow base t m v n xs) : w.drew.ownsRow base t m v n xs := h

set_option maxRecDepth 100000 in
set_option maxHeartbeats 2000000 in
theorem specFormatOrders_any (A : Option Addr) (n c : Nat) (xs : List OrderT) (w : World) (hr : Rd w A (cellsOrder xs)) (hn : n = xs.length) (hb : n ≤ 1048576) (hz : ∀ x ∈ xs, x.1.size ≤ 1048576 ∧ x.2.1.size ≤ 1048576) :
    Calls Try.prog 23 #[.slice A n c] w (Kept w (.string (fmtS xs))) := by
  have hO0 := own_of_bk (base := w.heap.size) (m := 1) (n := 0) (Bk.new w 9 #[]) (Nat.le_refl _) rfl (by unfold maxLen; omega)
  have hW0 : Below w.heap.size w (w.alloc (.cells #[] 9)) := (Below.refl _ _).alloc (Nat.le_refl _) _
  have Hr := Lib.hid hr
  clear hr
  have Hn := Lib.hid hn
  clear hn
  have Hz := Lib.hid hz
  clear hz
  have HO0 := Lib.hid hO0
  clear hO0
  have HW0 := Lib.hid hW0
  clear hW0
  go_enter Try.func23, Try.ntmps23
  go_wp2_with fail
  go_loopw [3, 9] (fun v i wr => ∃ (j : Nat) (B : Option Addr) (d : Nat), j ≤ n ∧ v = .slice B j d ∧ i = .int .i64 j ∧ wr.ownsRow w.heap.size 9 1 (.slice B j d) j (strs ((xs.take j).map fmtO)) ∧ Below w.heap.size w wr) (fun _ i _ => n - (intOf i).toNat)
  case atStart => exact ⟨0, _, _, Nat.zero_le _, rfl, rfl, HO0.out, HW0.out⟩
  case round =>
    clear HO0 HW0
    obtain ⟨j, B, d, hj, rfl, rfl, hown, hW⟩ := hrel
    by_cases hlt : j < n
    · have hj2 : j < xs.length := by rw [← Hn.out]; exact hlt
      obtain ⟨b, o, rfl, hbl, p0, p1, p2⟩ := rd_Order (Hr.out.keep hW) hj2
      obtain ⟨⟨v0, v1, v2⟩, hv⟩ : ∃ v, v = xs[j] := ⟨_, rfl⟩
      have hzz := Hz.out _ (List.getElem_mem hj2)
      rw [← hv] at p0 p1 p2 hzz
      dsimp only at p0 p1 p2 hzz
      have htk : strs ((xs.take (j + 1)).map fmtO) = strs ((xs.take j).map fmtO) ++ [.string ((dot v0 ++ markO v2) ++ dot v1)] := by
        rw [List.take_succ_eq_append_getElem hj2, List.map_append, ← hv]
        simp [strs, fmtO]
      have d0 := dot_size hzz.1 (by omega)
      have d1 := dot_size hzz.2 (by omega)
      have dm := mark_size v2
      have d2 : (dot v0 ++ markO v2).size ≤ 1048577 := by rw [ByteArray.size_append, dm]; omega
      have hWa := hW.alloc hW.size (.cells #[.string v0, .string v1, .bool v2] 95)
      have hoa := own_keep hown ((Below.refl _ wr).alloc (Nat.le_refl _) (.cells #[.string v0, .string v1, .bool v2] 95)) (Nat.le_refl _)
      have hX := Bk.new wr 95 #[.string v0, .string v1, .bool v2]
      have hod := own_drewF hoa
      have hwd := hWa.drew
      have hws := hwd.size
      have k0 : (World.drew (World.alloc wr (.cells #[.string v0, .string v1, .bool v2] 95))).cell? ⟨wr.heap.size, 0, none⟩ = some (.string v0) := by rw [hX.drew.cell]; rfl
      have k1 : (World.drew (World.alloc wr (.cells #[.string v0, .string v1, .bool v2] 95))).cell? ⟨wr.heap.size, 1, none⟩ = some (.string v1) := by rw [hX.drew.cell]; rfl
      clear hown hoa hW hWa
      obtain ⟨a0, ha0⟩ : ∃ a, a = v0 := ⟨_, rfl⟩
      obtain ⟨a1, ha1⟩ : ∃ a, a = v1 := ⟨_, rfl⟩
      rw [← ha0] at p0 k0 htk d0 d2 hX hod hwd hws k1
      rw [← ha1] at p1 k0 k1 htk d1 hX hod hwd hws
      subst ha0 ha1
      cases v2
      · rw [show markO false = (⟨#[62]⟩ : ByteArray) from rfl] at htk d2 dm
        have g1 : ¬ 9223372036854775807 < (dot a0).size + 1 := by omega
        have g2 : ¬ 9223372036854775807 < (dot a0 ++ (⟨#[62]⟩ : ByteArray)).size + (dot a1).size := by omega
        have g3 : ¬ 9223372036854775807 < (dot a0).size + 1 + (dot a1).size := by omega
        have Hv := Lib.hid hv
        clear hv
        have Htk := Lib.hid htk
        clear htk
        have HX := Lib.hid hX
        clear hX
        have Hwd := Lib.hid hwd
        clear hwd
        go_wp2_with fail
        go_region_law (first | (refine step_app1 _ (World.drew (World.alloc wr (.cells #[.string a0, .string a1, .bool false] 95))) rfl _ _ 94 rfl w.heap.size 9 1 16 _ Try.underlying94 info_str rfl (by omega) _ _ _ _ rfl rfl (by simp [go_sem]) hod rfl (one_cell_strF _) (by omega) (by unfold maxLen; omega) (by omega) ?_; intro A5 c5 w5 hO5 hW5) | (go_simp; ((with_reducible refine (specDot_any a0 _).mono ?_); rintro e y1 ⟨rfl, rfl⟩)) | (go_simp; ((with_reducible refine (specDot_any a1 _).mono ?_); rintro e y2 ⟨rfl, rfl⟩)))
        all_goals
          have hO6 : w5.ownsRow w.heap.size 9 1 (.slice A5 (j + 1) c5) (j + 1) (strs ((xs.take (j + 1)).map fmtO)) := by rw [Htk.out]; exact hO5
          clear hO5 hod
          go_wp2_with fail
          go_roundw
          case rel => exact ⟨j + 1, A5, c5, by omega, rfl, by go_num, hO6, Hwd.out.trans hW5⟩
          case measure => simp [intOf] <;> omega

      · rw [show markO true = (⟨#[33]⟩ : ByteArray) from rfl] at htk d2 dm
        have g1 : ¬ 9223372036854775807 < (dot a0).size + 1 := by omega
        have g2 : ¬ 9223372036854775807 < (dot a0 ++ (⟨#[33]⟩ : ByteArray)).size + (dot a1).size := by omega
        have g3 : ¬ 9223372036854775807 < (dot a0).size + 1 + (dot a1).size := by omega
        have Hv := Lib.hid hv
        clear hv
        have Htk := Lib.hid htk
        clear htk
        have HX := Lib.hid hX
        clear hX
        have Hwd := Lib.hid hwd
        clear hwd
        go_wp2_with fail
        go_region_law (first | (refine step_app1 _ (World.drew (World.alloc wr (.cells #[.string a0, .string a1, .bool true] 95))) rfl _ _ 94 rfl w.heap.size 9 1 16 _ Try.underlying94 info_str rfl (by omega) _ _ _ _ rfl rfl (by simp [go_sem]) hod rfl (one_cell_strF _) (by omega) (by unfold maxLen; omega) (by omega) ?_; intro A5 c5 w5 hO5 hW5) | (go_simp; ((with_reducible refine (specDot_any a0 _).mono ?_); rintro e y1 ⟨rfl, rfl⟩)) | (go_simp; ((with_reducible refine (specDot_any a1 _).mono ?_); rintro e y2 ⟨rfl, rfl⟩)))
        all_goals
          have hO6 : w5.ownsRow w.heap.size 9 1 (.slice A5 (j + 1) c5) (j + 1) (strs ((xs.take (j + 1)).map fmtO)) := by rw [Htk.out]; exact hO5
          clear hO5 hod
          go_wp2_with fail
          go_roundw
          case rel => exact ⟨j + 1, A5, c5, by omega, rfl, by go_num, hO6, Hwd.out.trans hW5⟩
          case measure => simp [intOf] <;> omega

    · have : j = n := by omega
      subst this
      have hT : xs.take j = xs := List.take_of_length_le (by rw [← Hn.out]; exact Nat.le_refl _)
      rw [hT] at hown
      have hjl : j = (xs.map fmtO).length := by rw [List.length_map]; exact Hn.out
      have hall : ∀ x ∈ xs.map fmtO, x.size ≤ 2097153 := fun x hx => by
        obtain ⟨o, ho, rfl⟩ := List.mem_map.1 hx
        exact fmtO_size (Hz.out o ho).1 (Hz.out o ho).2
      by_cases hn0 : j = 0
      · have e1 : fmtS xs = ⟨#[45]⟩ := if_pos (by rw [← Hn.out]; exact hn0)
        subst hn0
        clear hjl
        have Hown := Lib.hid hown
        clear hown
        have Hall := Lib.hid hall
        clear hall
        have E1 := Lib.hid e1
        clear e1
        go_wp2_with fail
        go_ret
        exact ⟨by rw [E1.out]; rfl, hW⟩
      · have e1 : fmtS xs = jn (xs.map fmtO) spc := if_neg (by rw [← Hn.out]; exact hn0)
        have hnz : ((j : Int) == 0) = false := by simp; omega
        have Hown := Lib.hid hown
        clear hown
        have Hall := Lib.hid hall
        clear hall
        have E1 := Lib.hid e1
        clear e1
        have Hjl := Lib.hid hjl
        clear hjl
        go_wp2_with fail
        refine (specJoin_any B j d (xs.map fmtO) _ (Rd.of_own Hown.out) Hjl.out hb Hall.out).mono ?_
        rintro e w2 ⟨rfl, rfl⟩
        go_wp2_with fail
        go_ret
        rw [E1.out]
        exact ⟨rfl, hW⟩

end Go.Proofs.Ytgnmfneinnojnaa
