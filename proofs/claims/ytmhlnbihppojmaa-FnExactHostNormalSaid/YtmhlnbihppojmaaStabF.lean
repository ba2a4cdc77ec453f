/- The library's stable sort of labels: it ends and keeps the members at every length; fewer than 20 it puts in order. No conditions. -/
import Derived.Test.YtmhlnbihppojmaaStabS
import Derived.Shelf.SlSortCmp.NoneTotal
namespace Go.Proofs.Ytmhlnbihppojmaa
open Go.RowKit

def OrdK (N : Nat) (l' l : List Label) : Prop := SubL l' l ∧ (N < 20 → l'.Perm l ∧ l'.Pairwise (fun x y => lessS y.key x.key = false))
set_option maxHeartbeats 4000000 in
set_option maxRecDepth 10000 in
theorem c_stableCmp (l : List Label) (N g cap base : Nat) (w : World) (hN : l.length = N) (h : RowE encL 2 142 base w l (.slice (some ⟨g, 0, none⟩) N cap)) (hl : N ≤ 1048576) (hp : 0 < N) :
    Calls Try.prog 182 #[.slice (some ⟨g, 0, none⟩) N cap, .int .i64 N, .func (.func 134) #[] #[]] w fun e w' => ∃ l' : List Label, e = .returned (.tuple #[]) ∧ OrdK N l' l ∧ RowE encL 2 142 base w' l' (.slice (some ⟨g, 0, none⟩) N cap) ∧ Aside (fun q => q = g) w w' := by
  have H := Lib.hid h
  have HN := Lib.hid hN
  clear h hN
  go_enter Try.func182, Try.ntmps182
  go_wp2_with fail
  go_loopw [7, 8] (fun s7 s8 wr => ∃ (a : Nat) (l1 : List Label), s7 = .int .i64 a ∧ s8 = .int .i64 ((a : Int) + 20) ∧ a ≤ N ∧ SubL l1 l ∧ (N < 20 → a = 0 ∧ l1 = l) ∧ RowE encL 2 142 base wr l1 (.slice (some ⟨g, 0, none⟩) N cap) ∧ Aside (fun q => q = g) w wr) (fun s7 _ _ => N - (intOf s7).toNat)
  case atStart => exact ⟨0, l, rfl, by go_num, Nat.zero_le _, SubL.refl _, fun _ => ⟨rfl, rfl⟩, H.out, Aside.refl _ _⟩
  case round =>
    obtain ⟨a, l1, rfl, rfl, haN, hS, hq, hR, hA⟩ := hrel
    have HS := Lib.hid hS
    have HQ := Lib.hid hq
    have HR := Lib.hid hR
    have HA := Lib.hid hA
    have HL := Lib.hid (show l1.length = N by rw [hS.1]; exact HN.out)
    clear hS hq hR hA
    by_cases hb : (a : Int) + 20 ≤ N
    · go_wp2_with fail
      have hcon := c_insLabel l1 N g cap base a (a + 20) wr HL.out HR.out hl hp (by omega) (by omega)
      rw [show ((a + 20 : Nat) : Int) = (a : Int) + 20 by omega] at hcon
      refine hcon.mono ?_
      rintro e w1 ⟨l2, rfl, hS2, -, hR2, hA2⟩
      go_wp2_with fail
      go_roundw
      case rel => exact ⟨a + 20, l2, by go_num, by go_num, by omega, hS2.trans HS.out, fun h20 => by omega, hR2, HA.out.trans hA2⟩
      case measure => simp [intOf]; omega
    · go_wp2_with fail
      refine (c_insLabel l1 N g cap base a N wr HL.out HR.out hl hp haN (Nat.le_refl _)).mono ?_
      rintro e w1 ⟨l2, rfl, hS2, hO2, hR2, hA2⟩
      have HO := Lib.hid (show OrdK N l2 l from ⟨hS2.trans HS.out, fun h20 => by
        obtain ⟨h1, h2⟩ := HQ.out h20
        rw [← h2]
        exact hO2 h1 rfl⟩)
      have HR2 := Lib.hid hR2
      have HA2 := Lib.hid (HA.out.trans hA2)
      clear hS2 hO2 hR2 hA2 HS HQ HR HA HL
      go_wp2_with fail
      go_loopw [6] (fun s6 wr => ∃ (bs : Nat) (l1 : List Label), s6 = .int .i64 bs ∧ 20 ≤ bs ∧ bs ≤ 2097152 ∧ OrdK N l1 l ∧ RowE encL 2 142 base wr l1 (.slice (some ⟨g, 0, none⟩) N cap) ∧ Aside (fun q => q = g) w wr) (fun s6 _ => N - (intOf s6).toNat)
      case atStart => exact ⟨20, l2, rfl, Nat.le_refl _, by omega, HO.out, HR2.out, HA2.out⟩
      case round =>
        clear HO HR2 HA2
        obtain ⟨bs, l3, rfl, hb1, hb2, hO, hR, hA⟩ := hrel
        have HO := Lib.hid hO
        have HR := Lib.hid hR
        have HA := Lib.hid hA
        clear hO hR hA
        by_cases hlt : (bs : Int) < N
        · go_wp2_with fail
          go_loopw [7, 8] (fun s7 s8 wr => ∃ (a : Nat) (l1 : List Label), s7 = .int .i64 a ∧ s8 = .int .i64 ((a : Int) + 2 * bs) ∧ a ≤ N ∧ SubL l1 l ∧ RowE encL 2 142 base wr l1 (.slice (some ⟨g, 0, none⟩) N cap) ∧ Aside (fun q => q = g) w wr) (fun s7 _ _ => N - (intOf s7).toNat)
          case atStart => exact ⟨0, l3, rfl, by go_num, Nat.zero_le _, HO.out.1, HR.out, HA.out⟩
          case round =>
            clear HO HR HA
            obtain ⟨a, l4, rfl, rfl, haN, hS, hR, hA⟩ := hrel
            have HS := Lib.hid hS
            have HR := Lib.hid hR
            have HA := Lib.hid hA
            have HL := Lib.hid (show l4.length = N by rw [hS.1]; exact HN.out)
            clear hS hR hA
            by_cases hb : (a : Int) + 2 * bs ≤ N
            · go_wp2_with fail
              have hcon := c_symMerge (a + 2 * bs - a) l4 N g cap base a (a + bs) (a + 2 * bs) wr (Nat.le_refl _) HL.out HR.out hl (by omega) (by omega) (by omega)
              rw [show ((a + bs : Nat) : Int) = (a : Int) + bs by omega, show ((a + 2 * bs : Nat) : Int) = (a : Int) + 2 * bs by omega] at hcon
              refine hcon.mono ?_
              rintro e w1 ⟨l5, rfl, hS2, hR2, hA2⟩
              go_wp2_with fail
              go_roundw
              case rel => exact ⟨a + 2 * bs, l5, by go_num, by go_num, by omega, hS2.trans HS.out, hR2, HA.out.trans hA2⟩
              case measure => simp [intOf]; omega
            · by_cases hm : (a : Int) + bs < N
              · go_wp2_with fail
                have hcon := c_symMerge (N - a) l4 N g cap base a (a + bs) N wr (Nat.le_refl _) HL.out HR.out hl (by omega) (by omega) (Nat.le_refl _)
                rw [show ((a + bs : Nat) : Int) = (a : Int) + bs by omega] at hcon
                refine hcon.mono ?_
                rintro e w1 ⟨l5, rfl, hS2, hR2, hA2⟩
                go_wp2_with fail
                go_roundw
                case rel => exact ⟨bs * 2, l5, by go_num, by omega, by omega, ⟨hS2.trans HS.out, fun h20 => by omega⟩, hR2, HA.out.trans hA2⟩
                case measure => simp [intOf]; omega
              · go_wp2_with fail
                go_roundw
                case rel => exact ⟨bs * 2, l4, by go_num, by omega, by omega, ⟨HS.out, fun h20 => by omega⟩, HR.out, HA.out⟩
                case measure => simp [intOf]; omega
        · go_wp2_with fail
          go_end0
          exact ⟨rfl, l3, HO.out, HR.out, HA.out⟩
end Go.Proofs.Ytmhlnbihppojmaa
