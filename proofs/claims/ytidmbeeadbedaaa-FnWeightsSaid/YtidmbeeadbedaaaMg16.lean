/- Merged texts: a claim has a limit of files. -/
import Derived.Test.YtidmbeeadbedaaaMg3
import Derived.Test.YtidmbeeadbedaaaMg4
import Derived.Test.YtidmbeeadbedaaaMg1
import Derived.Lib.IndexMore
import Derived.Test.YtidmbeeadbedaaaMg9
import Derived.Test.YtidmbeeadbedaaaMg2
import Derived.Test.YtidmbeeadbedaaaMg7
import Derived.Test.YtidmbeeadbedaaaMg11
import Derived.Test.YtidmbeeadbedaaaMg12
import Derived.Deep.RegionLaw
import Derived.Test.YtidmbeeadbedaaaMg14
import Derived.Test.YtidmbeeadbedaaaProof
import Derived.Test.YtidmbeeadbedaaaChain
import Derived.Test.YtidmbeeadbedaaaMg15
import Derived.Lib.SliceRun
import Derived.ArgAppend
import Derived.Test.YtidmbeeadbedaaaMg13
import Derived.Maps.OwnSet
import Derived.Test.YtidmbeeadbedaaaLoop
import Derived.Test.YtidmbeeadbedaaaMg5

/- Walks over pairs and PairsOf of the program. -/
namespace Go.Proofs.Ytidmbeeadbedaaa
open Go.RowKit Go.Shelf

/-- What stays in the loops over two rules: the system's box, the boxes of the two rules, and that the slice V lies apart from them. -/
def PrK (w wr : World) (l : Int) (A : Option Addr) (n c br : Nat) (u u1 : ByteArray) (bo : Nat) (v v1 : ByteArray) (V : Value) : Prop :=
  Bk wr w.heap.size 25 #[.int .i64 l, .slice A n c] ∧ Bk wr br 156 #[.string u, .string u1] ∧ Bk wr bo 156 #[.string v, .string v1] ∧ Apt V (some ⟨br, 0, none⟩) wr ∧ Apt V (some ⟨bo, 0, none⟩) wr ∧ Below w.heap.size w wr
theorem PrK.below {w wr w' : World} {l : Int} {A : Option Addr} {n c br : Nat} {u u1 : ByteArray} {bo : Nat} {v v1 : ByteArray} {V : Value} (h : PrK w wr l A n c br u u1 bo v v1 V) (hb : Below wr.heap.size wr w') : PrK w w' l A n c br u u1 bo v v1 V :=
  ⟨h.1.below hb h.1.lt, h.2.1.below hb h.2.1.lt, h.2.2.1.below hb h.2.2.1.lt, h.2.2.2.1.below hb, h.2.2.2.2.1.below hb, h.2.2.2.2.2.trans (hb.mono h.2.2.2.2.2.size)⟩
theorem PrK.next {w wr w' : World} {l : Int} {A : Option Addr} {n c br : Nat} {u u1 : ByteArray} {bo : Nat} {v v1 : ByteArray} {V : Value} {g m d : Nat} (h : PrK w wr l A n c br u u1 bo v v1 V) (hW : Below (w.heap.size + 1) wr w') (hG : wr.grownBy w' V.ownBlock) (hat : V.ownBlock = some g ∨ wr.heap.size ≤ g) : PrK w w' l A n c br u u1 bo v v1 (.slice (some ⟨g, 0, none⟩) m d) :=
  ⟨h.1.below hW (by omega), h.2.2.2.1.bk h.2.1 hG, h.2.2.2.2.1.bk h.2.2.1 hG, h.2.2.2.1.next hG hat, h.2.2.2.2.1.next hG hat, h.2.2.2.2.2.trans (hW.mono (by omega))⟩

end Go.Proofs.Ytidmbeeadbedaaa

/- Walk over ShortenProof of the reference. -/
namespace Go.Proofs.Ytidmbeeadbedaaa
open Go.RowKit Go.Shelf

theorem step_append_own {P : Program} {ops : Array Oper} {o : Oper} {a : Act} {K : Act → World → Prop} {Q : Exit → Act → World → Prop} {E : Prop} (w : World) (hgd : o.guard = none) (s x : Operand) (t : TypeId)
    (ho : o.op = .call { callee := .builtin .append, args := #[s, x], argTypes := #[t, t] }) (base e size bytes : Nat) (z : Value) (ht : P.underlying t = some (.slice e))
    (hinfo : (P.info? e).map (fun i => (i.zero, i.size, i.bytes)) = some (some z, size, bytes)) (hzs : z.cells.size = size) (hsz : 0 < size) (v : Value) (n : Nat) (xs : List Value) (hs : a.eval s = v) (hown : w.ownsRow base e size v n xs)
    (ad : Addr) (m c : Nat) (news : List Value) (hx : a.eval x = .slice (some ad) m c) (hl : news.length = m * size) (hnews : ∀ j u, news[j]? = some u → w.cell? (ad.add j) = some u) (h1 : ∀ u ∈ news, u.oneCell' = true)
    (h63 : n + m ≤ maxLen) (hbytes : (n + m) * bytes ≤ 140737488355328) (hbase : base ≤ w.heap.size)
    (h : ∀ A c' w', w'.ownsRow base e size (.slice A (n + m) c') (n + m) (xs ++ news) → w.grownBy w' v.ownBlock → K (a.put o.dst (.slice A (n + m) c')) w') :
    if Region.wanted o (yielded ops a.tmps) = true then Oper.wp P o a w K Q else E := by
  have hwn : Region.wanted o (yielded ops a.tmps) = true := by simp [Region.wanted, hgd]
  rw [if_pos hwn]
  obtain ⟨i0, hi, hz0, hz1, hz2⟩ := info_parts hinfo
  refine wp_append_own _ s x t ho base e i0 z size bytes ht hi hz0 hz1 hz2 hzs hsz v n xs hs hown ad m c news hx hl hnews h1 h63 hbytes hbase ?_
  intro v' w' hO hG _
  obtain ⟨A, c', rfl⟩ := own_form hO
  exact h A c' w' hO hG
end Go.Proofs.Ytidmbeeadbedaaa
