/- The library's Atoi, where it gives a number and where the text is out of range. Conditions: strconv.ErrRange holds an error or nil. -/
import Derived.Test.YtdogjeoiggnhaaaDoorFig
import Derived.Test.YtdogjeoiggnhaaaDoorLaidA
import Derived.Test.YtdogjeoiggnhaaaDoorLabel
namespace Go.Proofs.YtdogjeoiggnhaaaDoor
open Go.RowKit Go.Lib

/-- strconv.ErrRange holds something that can be told. -/
def ErrR (w : World) : Prop := ∃ ev, w.cell? ⟨laysAtoi_ren.g 16, 0, none⟩ = some ev ∧ (ev = .nilIface ∨ ∃ te pe, ev = .iface te pe)
theorem ErrR.below {w w' : World} (h : ErrR w) (hb : Below w.heap.size w w') : ErrR w' := by
  obtain ⟨ev, h1, h2⟩ := h
  exact ⟨ev, (hb.cell (p := ⟨laysAtoi_ren.g 16, 0, none⟩) (Lib.lt_of_cell h1)).trans h1, h2⟩
theorem c_Atoi_ok (s : ByteArray) (v : Int) (w : World) (hs : s.size ≤ 1048576) (h : Lib.atoiAll s.data.toList = .ok v) :
    Calls Tryd.prog 43 #[.string s] w fun e w' => e = .returned (.tuple #[.int .i64 v, .nilIface]) ∧ Below w.heap.size w w' := by
  have h1 := Any.strconv_Atoi_ok laysAtoi s (by omega) v h w
  change Calls Tryd.prog 43 _ _ _ at h1
  refine h1.mono ?_
  rintro e w' ⟨rfl, hw⟩
  refine ⟨rfl, ?_⟩
  rcases hw with rfl | ⟨t, rfl⟩
  · exact Below.refl _ _
  · exact Lib.bytesWorld_below _ _ _
theorem c_Atoi_range (s : ByteArray) (w : World) (hs : s.size ≤ 1048576) (h : Lib.atoiAll s.data.toList = .range) (hE : ErrR w) :
    Calls Tryd.prog 43 #[.string s] w fun e w' => ∃ x N, e = .returned (.tuple #[.int .i64 x, .iface 73 (.pointer (some ⟨N, 0, none⟩))]) ∧ Below w.heap.size w w' := by
  obtain ⟨ev, h2, h3⟩ := hE
  have h1 := Any.strconv_Atoi_range laysAtoi s (by omega) h ev w h2 h3
  change Calls Tryd.prog 43 _ _ _ at h1
  refine h1.mono ?_
  rintro e w' ⟨N, rfl, -, -, hb⟩
  exact ⟨_, N, rfl, hb⟩
theorem digit_fig (x : Int) : digitB x = figI x := by
  unfold digitB figI
  rw [Bool.eq_iff_iff]
  simp
end Go.Proofs.YtdogjeoiggnhaaaDoor
