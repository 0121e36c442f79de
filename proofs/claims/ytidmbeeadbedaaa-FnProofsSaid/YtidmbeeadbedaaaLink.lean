/- Walks over the laws' helpers for impl.Link: eqLink, eqLinkS, markLinkS, heldLinkS and the readings of slices of them. -/
import Derived.Test.YtidmbeeadbedaaaMg3
import Derived.Test.YtidmbeeadbedaaaMg1
namespace Go.Proofs.Ytidmbeeadbedaaa
open Go.RowKit Go.Shelf

abbrev LinkT : Type := Int × Int × Bool
def encLink (x : LinkT) : List Value := [.int .i64 x.1, .int .i64 x.2.1, .bool x.2.2]
def cellsLink (xs : List LinkT) : List Value := xs.flatMap encLink
theorem cellsLink_len (xs : List LinkT) : (cellsLink xs).length = xs.length * 3 := flat_len (enc := encLink) (m := 3) (fun _ => rfl) xs
theorem info_Link : (Try.prog.info? 95).map (fun i => (i.zero, i.size, i.bytes)) = some (some (.agg #[.int .i64 0, .int .i64 0, .bool false]), 3, 24) := by kernel_rfl

/-- The cells of element k. -/
theorem rd_Link {w : World} {A : Option Addr} {xs : List LinkT} (h : Rd w A (cellsLink xs)) {k : Nat} (hk : k < xs.length) : ∃ b off, A = some ⟨b, off, none⟩ ∧ b < w.heap.size ∧
    w.cell? ⟨b, off + k * 3, none⟩ = some (.int .i64 xs[k].1) ∧ w.cell? ⟨b, off + k * 3 + 1, none⟩ = some (.int .i64 xs[k].2.1) ∧ w.cell? ⟨b, off + k * 3 + 2, none⟩ = some (.bool xs[k].2.2) := by
  have f0 := flat_get (enc := encLink) (m := 3) (fun _ => rfl) xs k 0 hk (by omega)
  obtain ⟨b, off, e, hb, hc⟩ := h (by intro e; unfold cellsLink at e; rw [e] at f0; cases f0)
  refine ⟨b, off, e, hb, ?_, ?_, ?_⟩
  · exact hc (k * 3) _ f0
  · exact hc (k * 3 + 1) _ (flat_get (enc := encLink) (m := 3) (fun _ => rfl) xs k 1 hk (by omega))
  · exact hc (k * 3 + 2) _ (flat_get (enc := encLink) (m := 3) (fun _ => rfl) xs k 2 hk (by omega))





end Go.Proofs.Ytidmbeeadbedaaa
