/- Walks over Join and FormatOrders of the program: the same text as the reference's. -/
import Derived.Test.YtgceabbeeobmgaaDoorFmt
import Derived.Test.YtgceabbeeobmgaaDoorShelfP
namespace Go.Proofs.YtgceabbeeobmgaaDoor
open Go.RowKit Go.Shelf

theorem rd_cellsF {w : World} {g : Nat} {ws : List ByteArray} (h : Rd w (some ⟨g, 0, none⟩) (strs ws)) : ∀ (j : Nat) x, ws[j]? = some x → w.cell? ⟨g, 0 + j, none⟩ = some (.string x) := fun j x hx => by
  have hu : (strs ws)[j]? = some (.string x) := by simp [strs, hx]
  obtain ⟨b, o, e, _, hc⟩ := h (by intro e; rw [e] at hu; cases hu)
  injection e with e
  injection e with e1 e2
  subst e1 e2
  exact hc j _ hu

set_option maxRecDepth 100000 in
set_option maxHeartbeats 1000000 in
theorem implJoin_any (g n c : Nat) (ws : List ByteArray) (w : World) (hc : ∀ (j : Nat) x, ws[j]? = some x → w.cell? ⟨g, 0 + j, none⟩ = some (.string x)) (hn : n = ws.length) (hn0 : 0 < n) (hb : n ≤ 1048576) (hcap : n ≤ c) (hg : g < w.heap.size) (hz : ∀ x ∈ ws, x.size ≤ 2097153) :
    Calls Tryd.prog 47 #[.slice (some ⟨g, 0, none⟩) n c, .string spc] w (Kept w (.string (jn ws spc))) := by
  subst hn
  have hl := jn_len hz
  have hl2 : (Lib.join (ws.map (·.data.toList)) spc.data.toList).length ≤ 140737488355328 := by omega
  obtain ⟨sp, hspe⟩ : ∃ sp, sp = spc := ⟨_, rfl⟩
  rw [← hspe] at hl2 ⊢
  have Hc := Lib.hid hc
  clear hc
  have Hz := Lib.hid hz
  clear hz
  have Hl2 := Lib.hid hl2
  clear hl2
  have Hspe := Lib.hid hspe
  clear hspe
  clear hl
  go_enter Tryd.func47, Tryd.ntmps47
  go_wp2_with fail
  refine (Tryd.strings_Join g 0 c ws sp w Hc.out hg (by omega) hcap Hl2.out).mono ?_
  rintro e w1 ⟨rfl, b1⟩
  obtain ⟨r, hrr⟩ : ∃ r, r = jn ws sp := ⟨_, rfl⟩
  have hre : (⟨(Lib.join (ws.map (·.data.toList)) sp.data.toList).toArray⟩ : ByteArray) = r := hrr.symm
  rw [hre, ← hrr]
  have Hre := Lib.hid hre
  clear hre
  have Hrr := Lib.hid hrr
  clear hrr
  go_wp2_with fail
  go_ret
  exact ⟨by first | rfl | (rw [← Hrr.out]; rfl) | (rw [← Hspe.out, ← Hrr.out]; rfl), b1⟩


end Go.Proofs.YtgceabbeeobmgaaDoor
