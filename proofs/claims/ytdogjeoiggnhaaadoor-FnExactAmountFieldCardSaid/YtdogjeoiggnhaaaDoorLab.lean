/- Contracts of LabelAt and of the search of a string in a slice. No conditions. -/
import Derived.Test.YtdogjeoiggnhaaaDoorStrs
import Derived.Test.YtdogjeoiggnhaaaDoorDet
import Derived.Test.YtdogjeoiggnhaaaDoorCum2
namespace Go.Proofs.YtdogjeoiggnhaaaDoor
open Go.RowKit

theorem takeAny_succ {D : Type} (p : D → Bool) (l : List D) (k : Nat) (d : D) (h : l[k]? = some d) : (l.take (k + 1)).any p = ((l.take k).any p || p d) := by
  rw [List.take_add_one, h]; simp
theorem takeAny_no {D : Type} (p : D → Bool) (l : List D) (k : Nat) (d : D) (h : l[k]? = some d) (ha : (l.take k).any p = false) (hp : p d = false) : (l.take (k + 1)).any p = false := by
  rw [takeAny_succ p l k d h, ha, hp]; rfl
theorem any_hit {D : Type} (p : D → Bool) (l : List D) (k : Nat) (d : D) (h : l[k]? = some d) (hp : p d = true) : l.any p = true := by
  rw [List.any_eq_true]; exact ⟨d, List.mem_of_getElem? h, hp⟩
theorem any_end {D : Type} (p : D → Bool) (l : List D) (ha : (l.take l.length).any p = false) : l.any p = false := by rw [List.take_length] at ha; exact ha
theorem find_hit {D : Type} (p : D → Bool) : ∀ (l : List D) (k : Nat) (d : D), l[k]? = some d → (l.take k).any p = false → p d = true → l.find? p = some d
  | [], k, d, h, _, _ => by simp at h
  | x :: l, 0, d, h, _, hp => by simp at h; subst h; simp [hp]
  | x :: l, k + 1, d, h, ha, hp => by
    simp only [List.take_succ_cons, List.any_cons, Bool.or_eq_false_iff] at ha
    simp only [List.getElem?_cons_succ] at h
    rw [List.find?_cons, ha.1]; exact find_hit p l k d h ha.2 hp
theorem find_end {D : Type} (p : D → Bool) (l : List D) (ha : (l.take l.length).any p = false) : l.find? p = none := by
  rw [List.take_length] at ha
  rw [List.find?_eq_none]; intro x hx hp
  have : l.any p = true := List.any_eq_true.2 ⟨x, hx, hp⟩
  rw [this] at ha; cases ha

def keyIs (key : ByteArray) (d : Label) : Bool := d.key.toList == key.toList
def labV (l : List Label) (key : ByteArray) : ByteArray := match l.find? (keyIs key) with | some d => d.value | none => ⟨#[]⟩
def labB (l : List Label) (key : ByteArray) : Bool := (l.find? (keyIs key)).isSome
def isS (s x : ByteArray) : Bool := x.toList == s.toList
def hasS (l : List ByteArray) (s : ByteArray) : Bool := l.any (isS s)
theorem c_Index_Str (l : List ByteArray) (s : ByteArray) (v : Value) (w : World) (lo : Nat) (hs : Sl_Str lo w.heap.size w l v) :
    Calls Tryd.prog 37 #[v, .string s] w fun e w' => ∃ ix : Int, e = .returned (.int .i64 ix) ∧ decide (ix ≥ 0) = hasS l s ∧ -1 ≤ ix ∧ ix ≤ 9223372036854775807 ∧ Below w.heap.size w w' := by
  obtain ⟨A, c, rfl, hlc, hc, hA⟩ := hs
  go_enter Tryd.func37, Tryd.ntmps37
  go_wp2_with fail
  go_loopw [8] (fun i wr => ∃ k : Nat, k ≤ l.length ∧ i = .int .i64 k ∧ (l.take k).any (isS s) = false ∧ Below w.heap.size w wr) (fun i _ => l.length - (intOf i).toNat)
  case atStart => exact ⟨0, Nat.zero_le _, rfl, rfl, (by repeat (first | (with_reducible exact Below.refl _ _) | (with_reducible refine ext_alloc ?_) | ((with_reducible refine ext_setCell ?_ ?_); focus (simp; (try omega))) | (with_reducible refine below_drewN ?_ _) | (with_reducible refine Below.drew ?_) | (with_reducible (apply ext_step; assumption))))⟩
  case round =>
    obtain ⟨k, hk, rfl, hall, hbr⟩ := hrel
    have Hall := Lib.hid hall
    clear hall
    by_cases hlt : k < l.length
    · obtain ⟨b, o, rfl, -, hb2, hcell⟩ := hA (by omega)
      obtain ⟨d, hd⟩ := exists_at hlt
      obtain ⟨es, -, hcs, hC⟩ := hcell k d hd
      obtain ⟨rfl, ea0⟩ := hC
      have hc0 := (hbr.cell (p := ⟨b, o + k * 1 + 0, none⟩) (by simp; omega)).trans (hcs 0 (by omega))
      simp at hc0
      have hbl : b < wr.heap.size := Nat.lt_of_lt_of_le hb2 hbr.size
      have hk0 : (0 : Int) ≤ k := by omega
      have hk1 : (k : Int) < l.length := by omega
      have hq2 : (s.toList == d.toList) = (d.toList == s.toList) := by rw [Bool.eq_iff_iff, beq_iff_eq, beq_iff_eq]; exact eq_comm
      rcases hq : (d.toList == s.toList) with _ | _
      · have Hn := Lib.hid (takeAny_no (isS s) l k d hd Hall.out hq)
        rw [hq] at hq2
        clear hcs hcell hA hd
        go_wp2_with fail
        go_roundw
        case rel => exact ⟨k + 1, by omega, by go_num, Hn.out, (by repeat (first | (with_reducible exact Below.refl _ _) | (with_reducible refine ext_alloc ?_) | ((with_reducible refine ext_setCell ?_ ?_); focus (simp; (try omega))) | (with_reducible refine below_drewN ?_ _) | (with_reducible refine Below.drew ?_) | (with_reducible (apply ext_step; assumption))))⟩
        case measure => simp [intOf]; omega
      · have Hh := Lib.hid (show hasS l s = true from any_hit (isS s) l k d hd hq)
        rw [hq] at hq2
        clear hcs hcell hA hd
        go_wp2_with fail
        go_ret
        exact ⟨_, rfl, by rw [Hh.out]; simp, by omega, by omega, (by repeat (first | (with_reducible exact Below.refl _ _) | (with_reducible refine ext_alloc ?_) | ((with_reducible refine ext_setCell ?_ ?_); focus (simp; (try omega))) | (with_reducible refine below_drewN ?_ _) | (with_reducible refine Below.drew ?_) | (with_reducible (apply ext_step; assumption))))⟩
    · obtain rfl : k = l.length := by omega
      have Hh := Lib.hid (show hasS l s = false from any_end (isS s) l Hall.out)
      clear hA
      go_wp2_with fail
      go_ret
      exact ⟨_, rfl, by rw [Hh.out]; simp, by omega, by omega, (by repeat (first | (with_reducible exact Below.refl _ _) | (with_reducible refine ext_alloc ?_) | ((with_reducible refine ext_setCell ?_ ?_); focus (simp; (try omega))) | (with_reducible refine below_drewN ?_ _) | (with_reducible refine Below.drew ?_) | (with_reducible (apply ext_step; assumption))))⟩
end Go.Proofs.YtdogjeoiggnhaaaDoor
