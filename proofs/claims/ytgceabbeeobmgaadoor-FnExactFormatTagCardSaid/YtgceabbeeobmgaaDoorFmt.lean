/- Walks over dotted, l03Side, Join of the reference and FormatOrders of both: both give the same text. -/
import Derived.Test.YtgceabbeeobmgaaDoorMark
import Derived.Test.YtgceabbeeobmgaaDoorApp
import Derived.Test.YtgceabbeeobmgaaDoorStr
import Derived.Test.YtgceabbeeobmgaaDoorApp2
import Derived.Deep.RegionLaw
import Derived.Lib.Join
namespace Go.Proofs.YtgceabbeeobmgaaDoor
open Go.RowKit Go.Shelf

def dot (s : ByteArray) : ByteArray := if s = ⟨#[]⟩ then ⟨#[46]⟩ else s
theorem one_cell_strF (x : ByteArray) : ∀ u ∈ (#[Value.string x] : Array Value).toList, u.oneCell' = true := by
  intro u hu
  simp at hu
  subst hu
  rfl
theorem rd_StrG {w : World} {A : Option Addr} {xs : List ByteArray} (h : Rd w A (strs xs)) {k : Nat} (hk : k < xs.length) : ∃ b off, A = some ⟨b, off, none⟩ ∧ b < w.heap.size ∧ w.cell? ⟨b, off + k, none⟩ = some (.string xs[k]) := by
  have f0 := strs_get xs k hk
  obtain ⟨b, off, e, hb, hc⟩ := h (by intro e; rw [e] at f0; cases f0)
  exact ⟨b, off, e, hb, hc k _ f0⟩
/-- The words with a separator between them. -/
def jn (xs : List ByteArray) (sep : ByteArray) : ByteArray := ⟨(Lib.join (xs.map (·.data.toList)) sep.data.toList).toArray⟩
def spc : ByteArray := ⟨#[32]⟩
theorem dot_size {s : ByteArray} {k : Nat} (h : s.size ≤ k) (hk : 1 ≤ k) : (dot s).size ≤ k := by
  unfold dot
  split
  · exact hk
  · exact h
theorem ba_eq {a b : ByteArray} (h : a.data.toList = b.data.toList) : a = b := by
  cases a; cases b; simp_all
theorem jn_one (x sep : ByteArray) : jn [x] sep = x := by
  apply ba_eq
  rw [jn, List.map_cons, List.map_nil, Lib.join_one]
theorem joinTail_app (sep : List UInt8) (r s : List (List UInt8)) : Lib.joinTail sep (r ++ s) = Lib.joinTail sep r ++ Lib.joinTail sep s := by simp [Lib.joinTail]
theorem jn_snoc {xs : List ByteArray} (h : xs ≠ []) (x sep : ByteArray) : jn (xs ++ [x]) sep = (jn xs sep ++ sep) ++ x := by
  cases xs with
  | nil => exact absurd rfl h
  | cons y r =>
    apply ba_eq
    simp only [jn, List.cons_append, List.map_cons, List.map_append, Lib.join_cons, joinTail_app, ByteArray.data_append, Array.toList_append, List.toList_toArray]
    simp [Lib.joinTail]
theorem tail_len {sep : List UInt8} {K : Nat} (hs : sep.length = 1) : ∀ {r : List (List UInt8)}, (∀ x ∈ r, x.length ≤ K) → (Lib.joinTail sep r).length ≤ r.length * (K + 1)
  | [], _ => by simp [Lib.joinTail]
  | x :: r, h => by
    have ih := tail_len hs (r := r) (fun y hy => h y (List.mem_cons_of_mem _ hy))
    have hx := h x (List.mem_cons_self)
    have e : Lib.joinTail sep (x :: r) = (sep ++ x) ++ Lib.joinTail sep r := by simp [Lib.joinTail]
    rw [e, List.length_append, List.length_append, List.length_cons, Nat.add_mul, Nat.one_mul]
    omega
theorem jn_len {xs : List ByteArray} {K : Nat} (h : ∀ x ∈ xs, x.size ≤ K) : (Lib.join (xs.map (·.data.toList)) spc.data.toList).length ≤ xs.length * (K + 1) := by
  cases xs with
  | nil => simp [Lib.join_nil]
  | cons y r =>
    rw [List.map_cons, Lib.join_cons, List.length_append]
    have h1 := tail_len (sep := spc.data.toList) (K := K) rfl (r := r.map (·.data.toList)) (by
      intro z hz
      obtain ⟨u, hu, rfl⟩ := List.mem_map.1 hz
      exact h u (List.mem_cons_of_mem _ hu))
    have h2 : y.data.toList.length ≤ K := h y (List.mem_cons_self)
    rw [List.length_map] at h1
    rw [List.length_cons, Nat.add_mul, Nat.one_mul]
    omega

set_option maxRecDepth 100000 in
theorem implDot_any (s : ByteArray) (w : World) : Calls Tryd.prog 46 #[.string s] w (fun e w' => e = .returned (.string (dot s)) ∧ w' = w) := by
  have hq : s.toList.isEmpty = decide (s = ⟨#[]⟩) := by
    rw [← str_eq, show (⟨#[]⟩ : ByteArray).toList = [] by rw [ByteArray.toList_eq]]
    cases s.toList <;> rfl
  go_enter Tryd.func46, Tryd.ntmps46
  by_cases h : s = ⟨#[]⟩
  · rw [decide_eq_true h] at hq
    have e1 : dot s = ⟨#[46]⟩ := if_pos h
    rw [e1]
    clear h
    go_wp2_with fail
    go_ret
    exact ⟨rfl, rfl⟩
  · rw [decide_eq_false h] at hq
    have e1 : dot s = s := if_neg h
    rw [e1]
    clear h
    go_wp2_with fail
    go_ret
    exact ⟨rfl, rfl⟩

set_option maxRecDepth 100000 in
theorem specDot_any (s : ByteArray) (w : World) : Calls Tryd.prog 42 #[.string s] w (fun e w' => e = .returned (.string (dot s)) ∧ w' = w) := by
  have hq : s.toList.isEmpty = decide (s = ⟨#[]⟩) := by
    rw [← str_eq, show (⟨#[]⟩ : ByteArray).toList = [] by rw [ByteArray.toList_eq]]
    cases s.toList <;> rfl
  go_enter Tryd.func42, Tryd.ntmps42
  by_cases h : s = ⟨#[]⟩
  · rw [decide_eq_true h] at hq
    have e1 : dot s = ⟨#[46]⟩ := if_pos h
    rw [e1]
    clear h
    go_wp2_with fail
    go_ret
    exact ⟨rfl, rfl⟩
  · rw [decide_eq_false h] at hq
    have e1 : dot s = s := if_neg h
    rw [e1]
    clear h
    go_wp2_with fail
    go_ret
    exact ⟨rfl, rfl⟩


theorem own_capF {w : World} {base : Nat} {t : TypeId} {m n c : Nat} {A : Option Addr} {xs : List Value} (h : w.ownsRow base t m (.slice A n c) n xs) : n ≤ c := by
  rcases h.2 with ⟨h1, h2⟩ | ⟨g, cap, cur, hv, _, _, hc, _⟩
  · injection h1 with _ h3 h4; omega
  · injection hv with _ _ h4
    omega

end Go.Proofs.YtgceabbeeobmgaaDoor
