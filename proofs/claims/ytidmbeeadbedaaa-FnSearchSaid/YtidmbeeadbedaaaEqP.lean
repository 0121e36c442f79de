/- The sort of words with a length is the insertion of the plain words. No walk, no condition. -/
import Derived.Test.YtidmbeeadbedaaaMg11
import Derived.Sort.LotA
import Derived.Shelf.SlSortCmp.Whole1
namespace Go.Proofs.Ytidmbeeadbedaaa
open Go.RowKit Go.Shelf Go.Sort

/-- Words that have a length. -/
abbrev W8 : Type := {s : ByteArray // s.size ≤ 1048576}
instance : Inhabited W8 := ⟨⟨⟨#[]⟩, by decide⟩⟩
def encW (x : W8) : Value := .string x.1
def cfW (x y : W8) : Int := cmpW x.1 y.1
theorem ltW (x y : W8) : ltOf cfW x y = lessW x.1 y.1 := less_cmp x.1 y.1
theorem swoW : SWO (ltOf cfW) where
  irrefl x := by rw [ltW]; exact lessW_irrefl _
  trans x y z h1 h2 := by rw [ltW] at *; exact lessW_trans _ _ _ h1 h2
  ntrans x y z h1 h2 := by rw [ltW] at *; exact lessW_ntrans _ _ _ h1 h2
theorem totW (x y : W8) (h1 : ltOf cfW x y = false) (h2 : ltOf cfW y x = false) : x = y := by
  rw [ltW] at *
  exact Subtype.ext (lessW_total _ _ h1 h2)
/-- The list with each word's length told. -/
def w8s (ws : List ByteArray) (h : ∀ s ∈ ws, s.size ≤ 1048576) : List W8 := ws.attach.map fun x => ⟨x.1, h x.1 x.2⟩
theorem w8s_val (ws : List ByteArray) (h : ∀ s ∈ ws, s.size ≤ 1048576) : (w8s ws h).map (·.1) = ws := by
  unfold w8s
  rw [List.map_map]
  show ws.attach.map (fun x => x.1) = ws
  simp
theorem merge_one (d : List W8) : (d.mergeSort fun x y => !ltOf cfW y x).map (·.1) = srtW (d.map (·.1)) := by
  refine sorted_one ?_ ?_ (srtW_sorted _)
  · exact ((List.mergeSort_perm d _).map _).trans (srtW_perm _).symm
  · rw [List.pairwise_map]
    have : (d.mergeSort fun x y => !ltOf cfW y x).Pairwise fun x y => (!ltOf cfW y x) = true := by
      refine List.pairwise_mergeSort ?_ ?_ _
      · intro a b c h1 h2
        simp only [Bool.not_eq_true'] at h1 h2 ⊢
        exact swoW.ntrans c b a h2 h1
      · intro a b
        cases h : ltOf cfW b a with
        | false => simp
        | true => simp [swoW.asymmA h]
    exact this.imp fun {a b} h => by
      rw [ltW] at h
      simpa [leW] using h

end Go.Proofs.Ytidmbeeadbedaaa
