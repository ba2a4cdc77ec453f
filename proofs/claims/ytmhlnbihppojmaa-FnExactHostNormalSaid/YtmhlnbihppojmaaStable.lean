/- The library's stable sort of labels: it ends and keeps the members, at every length. No conditions. -/
import Derived.Test.YtmhlnbihppojmaaCompE
import Derived.Test.YtmhlnbihppojmaaCmp
import Derived.Test.YtmhlnbihppojmaaSortL
import Derived.Test.YtmhlnbihppojmaaDraw
import Derived.Shelf.RegionOpenPlain
namespace Go.Proofs.Ytmhlnbihppojmaa
open Go.RowKit

def SubL {D : Type} (l' l : List D) : Prop := l'.length = l.length ∧ ∀ x ∈ l', x ∈ l
theorem SubL.refl {D : Type} (l : List D) : SubL l l := ⟨rfl, fun _ h => h⟩
theorem SubL.trans {D : Type} {a b c : List D} (h : SubL a b) (k : SubL b c) : SubL a c := ⟨h.1.trans k.1, fun x hx => k.2 x (h.2 x hx)⟩
theorem mem_set {D : Type} {l : List D} {i : Nat} {x z : D} (h : z ∈ l.set i x) : z = x ∨ z ∈ l := by
  rcases List.mem_or_eq_of_mem_set h with h | h
  · exact .inr h
  · exact .inl h
theorem SubL.swap {D : Type} {l : List D} {i j : Nat} {x y : D} (hx : x ∈ l) (hy : y ∈ l) : SubL ((l.set i y).set j x) l :=
  ⟨by simp, fun z hz => by
    rcases mem_set hz with rfl | hz
    · exact hx
    · rcases mem_set hz with rfl | hz
      · exact hy
      · exact hz⟩
theorem aside_drew {S : Nat → Prop} {a b : World} (h : Aside S a b) : Aside S a b.drew := ⟨h.os, h.tape, h.output, h.size, h.block⟩
set_option maxHeartbeats 4000000 in
theorem c_swapRange (l : List Label) (N g cap base a b n : Nat) (fv : Value) (w : World) (hN : l.length = N) (h : RowE encL 2 142 base w l (.slice (some ⟨g, 0, none⟩) N cap)) (hl : N ≤ 1048576) (ha : a + n ≤ b) (hb : b + n ≤ N) :
    Calls Try.prog 216 #[.slice (some ⟨g, 0, none⟩) N cap, .int .i64 a, .int .i64 b, .int .i64 n, fv] w fun e w' => ∃ l' : List Label, e = .returned (.tuple #[]) ∧ SubL l' l ∧ RowE encL 2 142 base w' l' (.slice (some ⟨g, 0, none⟩) N cap) ∧ Aside (fun q => q = g) w w' := by
  subst hN
  have H := Lib.hid h
  clear h
  go_enter Try.func216, Try.ntmps216
  go_wp2_with fail
  go_loopw [10] (fun s10 wr => ∃ (k : Nat) (l' : List Label), k ≤ n ∧ s10 = .int .i64 k ∧ SubL l' l ∧ RowE encL 2 142 base wr l' (.slice (some ⟨g, 0, none⟩) l.length cap) ∧ Aside (fun q => q = g) w wr) (fun s10 _ => n - (intOf s10).toNat)
  case atStart => exact ⟨0, l, Nat.zero_le _, rfl, SubL.refl _, H.out, Aside.refl _ _⟩
  case round =>
    obtain ⟨k, l', hk, rfl, hS, hR, hA⟩ := hrel
    have HS := Lib.hid hS
    have HR := Lib.hid hR
    have HA := Lib.hid hA
    have hll : l'.length = l.length := hS.1
    by_cases hlt : k < n
    · obtain ⟨x, hx⟩ := exists_at (l := l') (k := a + k) (by omega)
      obtain ⟨y, hy⟩ := exists_at (l := l') (k := b + k) (by omega)
      obtain ⟨-, -, hcap, -, cur, hg, hcs, hrow⟩ := hR.at encL_len
      have hx0 : wr.cell? ⟨g, (a + k) * 2, none⟩ = some (.string x.key) := by rw [cell_of_row _ g _ cur _ _ hg]; exact hrow _ x hx 0 (by decide)
      have hx1 : wr.cell? ⟨g, (a + k) * 2 + 1, none⟩ = some (.string x.value) := by rw [cell_of_row _ g _ cur _ _ hg]; exact hrow _ x hx 1 (by decide)
      have hy0 : wr.cell? ⟨g, (b + k) * 2, none⟩ = some (.string y.key) := by rw [cell_of_row _ g _ cur _ _ hg]; exact hrow _ y hy 0 (by decide)
      have hy1 : wr.cell? ⟨g, (b + k) * 2 + 1, none⟩ = some (.string y.value) := by rw [cell_of_row _ g _ cur _ _ hg]; exact hrow _ y hy 1 (by decide)
      have hfz : ∀ o, wr.frozen? ⟨g, o, none⟩ = false := fun o => frozen_row hg o
      have hgl := row_lt hg
      have e0 : (0 : Int) ≤ (a : Int) + k := by omega
      have e1 : (a : Int) + k < l.length := by omega
      have e2 : (0 : Int) ≤ (b : Int) + k := by omega
      have e3 : (b : Int) + k < l.length := by omega
      have e4 : (k : Int) < n := by omega
      have n0 : ¬ (a + k) * 2 = (b + k) * 2 := by omega
      have n1 : ¬ (a + k) * 2 + 1 = (b + k) * 2 := by omega
      have n2 : ¬ (a + k) * 2 = (b + k) * 2 + 1 := by omega
      have n3 : ¬ (a + k) * 2 + 1 = (b + k) * 2 + 1 := by omega
      have HR2 := Lib.hid ((hR.store (k := a + k) encL_len (by decide) (by omega) (x := y)).store (k := b + k) encL_len (by decide) (by rw [List.length_set]; omega) (x := x))
      have HS2 := Lib.hid (SubL.trans (SubL.swap (i := a + k) (j := b + k) (List.mem_of_getElem? hx) (List.mem_of_getElem? hy)) hS)
      clear hrow hcs hS hR hA hg hx hy
      go_wp2_with fail
      have mixed : Try.prog.follows Departure.mixedOrders = true := by kernel_rfl
      go_big_region_o
      all_goals go_wp2
      go_roundw
      case rel => exact ⟨k + 1, _, by omega, by go_num, HS2.out, HR2.out.carry (fun _ _ => rfl), HA.out.trans (aside_drew (Aside.setCell (Aside.setCell (Aside.setCell (Aside.setCell (Aside.refl _ _) rfl) rfl) rfl) rfl))⟩
      case measure => simp [intOf]; omega
    · obtain rfl : k = n := by omega
      go_wp2_with fail
      go_end0
      exact ⟨l', rfl, HS.out, HR.out, HA.out⟩
set_option maxHeartbeats 4000000 in
theorem c_rotate (l : List Label) (N g cap base a m b : Nat) (fv : Value) (w : World) (hN : l.length = N) (h : RowE encL 2 142 base w l (.slice (some ⟨g, 0, none⟩) N cap)) (hl : N ≤ 1048576) (ham : a < m) (hmb : m < b) (hb : b ≤ N) :
    Calls Try.prog 214 #[.slice (some ⟨g, 0, none⟩) N cap, .int .i64 a, .int .i64 m, .int .i64 b, fv] w fun e w' => ∃ l' : List Label, e = .returned (.tuple #[]) ∧ SubL l' l ∧ RowE encL 2 142 base w' l' (.slice (some ⟨g, 0, none⟩) N cap) ∧ Aside (fun q => q = g) w w' := by
  subst hN
  have H := Lib.hid h
  clear h
  go_enter Try.func214, Try.ntmps214
  go_wp2_with fail
  go_loopw [10, 11] (fun s10 s11 wr => ∃ (i j : Nat) (l' : List Label), 0 < i ∧ 0 < j ∧ i ≤ m - a ∧ j ≤ b - m ∧ s10 = .int .i64 i ∧ s11 = .int .i64 j ∧ SubL l' l ∧ RowE encL 2 142 base wr l' (.slice (some ⟨g, 0, none⟩) l.length cap) ∧ Aside (fun q => q = g) w wr) (fun s10 s11 _ => (intOf s10).toNat + (intOf s11).toNat)
  case atStart => exact ⟨m - a, b - m, l, by omega, by omega, Nat.le_refl _, Nat.le_refl _, by go_num, by go_num, SubL.refl _, H.out, Aside.refl _ _⟩
  case round =>
    obtain ⟨i, j, l', hi, hj, hia, hjb, rfl, rfl, hS, hR, hA⟩ := hrel
    have HS := Lib.hid hS
    have HA := Lib.hid hA
    have hll : l'.length = l.length := hS.1
    have HR := Lib.hid hR
    have HLL := Lib.hid hll
    clear hS hR hA hll
    by_cases hij : i = j
    · subst hij
      go_wp2_with fail
      rw [show ((m : Int) - i) = ((m - i : Nat) : Int) by omega]
      refine (c_swapRange l' _ g cap base (m - i) m i fv _ HLL.out HR.out hl (by omega) (by omega)).mono ?_
      rintro e w1 ⟨l2, rfl, hS2, hR2, hA2⟩
      go_wp2_with fail
      go_end0
      exact ⟨l2, rfl, hS2.trans HS.out, hR2, HA.out.trans hA2⟩
    · have hne : ¬ (i : Int) = j := by omega
      by_cases hgt : j < i
      · have hgt2 : (j : Int) < i := by omega
        go_wp2_with fail
        rw [show ((m : Int) - i) = ((m - i : Nat) : Int) by omega]
        refine (c_swapRange l' _ g cap base (m - i) m j fv _ HLL.out HR.out hl (by omega) (by omega)).mono ?_
        rintro e w1 ⟨l2, rfl, hS2, hR2, hA2⟩
        go_wp2_with fail
        go_roundw
        case rel => exact ⟨i - j, j, l2, by omega, by omega, by omega, by omega, by go_num, rfl, hS2.trans HS.out, hR2, HA.out.trans hA2⟩
        case measure => simp [intOf]; omega
      · have hgt2 : ¬ (j : Int) < i := by omega
        go_wp2_with fail
        rw [show ((m : Int) - i) = ((m - i : Nat) : Int) by omega, show ((m : Int) + j - i) = ((m + j - i : Nat) : Int) by omega]
        refine (c_swapRange l' _ g cap base (m - i) (m + j - i) i fv _ HLL.out HR.out hl (by omega) (by omega)).mono ?_
        rintro e w1 ⟨l2, rfl, hS2, hR2, hA2⟩
        go_wp2_with fail
        go_roundw
        case rel => exact ⟨i, j - i, l2, by omega, by omega, by omega, by omega, rfl, by go_num, hS2.trans HS.out, hR2, HA.out.trans hA2⟩
        case measure => simp [intOf]; omega
end Go.Proofs.Ytmhlnbihppojmaa
