/- Contracts of the laws' own markText, markStringS, heldStringS. No conditions. -/
import Derived.Test.YtmhlnbihppojmaaOwnE
import Derived.Test.YtmhlnbihppojmaaDet
namespace Go.Proofs.Ytmhlnbihppojmaa
open Go.RowKit

set_option maxRecDepth 4000 in
theorem c_laws_markText (x : Int) (w : World) (h1 : 0 < x) (h2 : x ≤ 4611686018427387904) :
    Calls Try.prog 51 #[.int .i64 x] w fun e w' => e = .returned (.string (mkI x)) ∧ Below w.heap.size w w' := by
  have Hm := Lib.hid (show mkI x = ⟨#[109]⟩ ++ mkL x.toNat ⟨#[]⟩ from rfl)
  go_enter Try.func51, Try.ntmps51
  go_wp2_with fail
  go_loopw [0, 3] (fun y o wr => ∃ (j : Nat) (out : ByteArray), y = .int .i64 j ∧ o = .string out ∧ mkL j out = mkL x.toNat ⟨#[]⟩ ∧ out.size + j ≤ x.toNat ∧ Below w.heap.size w wr) (fun y _ _ => (intOf y).toNat)
  case atStart => exact ⟨x.toNat, ⟨#[]⟩, (by congr 1; omega), rfl, rfl, by show 0 + _ ≤ _; omega, (by repeat (first | (with_reducible exact Below.refl _ _) | (with_reducible refine ext_alloc ?_) | ((with_reducible refine ext_setCell ?_ ?_); focus (simp; (try omega))) | (with_reducible refine below_drewN ?_ _) | (with_reducible refine Below.drew ?_) | (with_reducible (apply ext_step; assumption))))⟩
  case round =>
    obtain ⟨j, out, rfl, rfl, hm, hs, hbr⟩ := hrel
    have Hj := Lib.hid hm
    clear hm
    by_cases hj : 0 < j
    · have hj2 : (0 : Int) < j := by omega
      have hj3 : (j : Int) ≤ 4611686018427387904 := by omega
      have hcv : (convert 40 9 (.slice (some ⟨wr.heap.size, 0, none⟩) 1 1)).run Try.prog (wr.alloc (.cells #[.int .u8 (48 + (j : Int) % 10)] 5)) = .ok (.string (digit j)) (wr.alloc (.cells #[.int .u8 (48 + (j : Int) % 10)] 5)) := by
        refine run_convert_bytes_back (P := Try.prog) _ 40 9 5 ⟨wr.heap.size, 0, none⟩ 1 [UInt8.ofNat (48 + j % 10)] Try.underlying40 Try.underlying5 Try.underlying9 (fun i hi => ?_)
        obtain rfl : i = 0 := by simpa using hi
        have e : ((UInt8.ofNat (48 + j % 10)).toNat : Int) = 48 + (j : Int) % 10 := by
          rw [UInt8.toNat_ofNat']; omega
        have e2 : (⟨wr.heap.size, 0, none⟩ : Addr).add 0 = ⟨wr.heap.size, 0, none⟩ := rfl
        rw [e2, World.cell?_alloc_mark]
        simp only [List.getElem_cons_zero, e]
        rfl
      have hd1 : (digit j).size = 1 := rfl
      have Hn := Lib.hid (show mkL (j / 10) (digit j ++ out) = mkL x.toNat ⟨#[]⟩ by rw [← Hj.out, mkL_pos j out hj])
      have Hz := Lib.hid (show (digit j ++ out).size + j / 10 ≤ x.toNat by rw [ByteArray.size_append, hd1]; omega)
      go_wp2_with fail
      go_roundw
      case rel => exact ⟨j / 10, digit j ++ out, by go_num, rfl, Hn.out, Hz.out, (by repeat (first | (with_reducible exact Below.refl _ _) | (with_reducible refine ext_alloc ?_) | ((with_reducible refine ext_setCell ?_ ?_); focus (simp; (try omega))) | (with_reducible refine below_drewN ?_ _) | (with_reducible refine Below.drew ?_) | (with_reducible (apply ext_step; assumption))))⟩
      case measure => simp [intOf]; omega
    · obtain rfl : j = 0 := by omega
      have Hf := Lib.hid (show mkI x = ⟨#[109]⟩ ++ out by rw [Hm.out, ← Hj.out, mkL_zero])
      go_wp2_with fail
      go_ret
      exact ⟨by rw [Hf.out]; rfl, (by repeat (first | (with_reducible exact Below.refl _ _) | (with_reducible refine ext_alloc ?_) | ((with_reducible refine ext_setCell ?_ ?_); focus (simp; (try omega))) | (with_reducible refine below_drewN ?_ _) | (with_reducible refine Below.drew ?_) | (with_reducible (apply ext_step; assumption))))⟩
theorem c_laws_markStringS (l : List ByteArray) (v : Value) (x : Int) (w : World) (S : Nat → Prop) (h : OwnS S w l v) (hSb : ∀ b, S b → b < w.heap.size) (h1 : 0 < x) (h2 : x + l.length ≤ 2305843009213693952) :
    Calls Try.prog 84 #[v, .int .i64 x] w fun e w' => ∃ l', e = .returned (.int .i64 (x + l.length)) ∧ l'.length = l.length ∧ OwnS S w' l' v ∧ MkSs x l' ∧ Aside S w w' := by
  obtain ⟨A, c, rfl, hlc, hc, hA⟩ := h
  by_cases hz : l.length = 0
  · obtain rfl : l = [] := List.eq_nil_of_length_eq_zero hz
    clear hA
    go_enter Try.func84, Try.ntmps84
    go_wp2_with fail
    go_loopw [1, 5] (fun y i wr => y = .int .i64 x ∧ i = .int .i64 0 ∧ wr = w) (fun _ _ _ => 0)
    case atStart => exact ⟨rfl, rfl, rfl⟩
    case round =>
      obtain ⟨rfl, rfl, rfl⟩ := hrel
      go_wp2_with fail
      go_ret
      exact ⟨[], ret_int (by simp), rfl, ⟨A, c, rfl, by simp, hc, fun h => by simp at h⟩, fun i s h => by simp at h, Aside.refl _ _⟩
  · obtain ⟨g, cur, rfl, hg, hr, hcur⟩ := hA (by omega)
    have hgl := hSb g hg
    go_enter Try.func84, Try.ntmps84
    go_wp2_with fail
    go_loopw [1, 5] (fun y i wr => ∃ (k : Nat) (l' : List ByteArray) (cur' : Array Value), k ≤ l.length ∧ l'.length = l.length ∧ i = .int .i64 k ∧ y = .int .i64 (x + k) ∧ wr.heap[g]? = some (.cells cur' 9 (0, 0)) ∧ (∀ (i : Nat) (s : ByteArray), l'[i]? = some s → cur'[i]? = some (Value.string s) ∧ s.size ≤ 9223372036854775807) ∧ (∀ (j : Nat) (s : ByteArray), j < k → l'[j]? = some s → s = mkI (x + j)) ∧ Aside S w wr) (fun _ i _ => l.length - (intOf i).toNat)
    case atStart => exact ⟨0, l, cur, Nat.zero_le _, rfl, rfl, by simp, hr, hcur, fun j s h => by omega, Aside.refl _ _⟩
    case round =>
      obtain ⟨k, l', cur', hk, hl', rfl, rfl, hr', hcur', hmk, has⟩ := hrel
      have Hc := Lib.hid hcur'
      have Hm := Lib.hid hmk
      clear hcur' hmk hcur hA
      by_cases hlt : k < l.length
      · obtain ⟨d, hd⟩ := exists_at (l := l') (k := k) (by omega)
        have hx0 : wr.cell? ⟨g, k, none⟩ = some (.string d) := by rw [cell_of_row wr g _ cur' _ _ hr']; exact (Hc.out k d hd).1
        have hf0 := frozen_row hr' k
        have hgw := row_lt hr'
        have hk1 : (k : Int) < l.length := by omega
        go_wp2_with (first | (go_at_call 51; refine (c_laws_markText _ _ (by omega) (by omega)).mono ?_; rintro e w1 ⟨rfl, hb⟩; (first | (have hcu2 := Cum.join hcu hb; (try clear hcu); (try clear hc); (try clear hfz); (try clear hsz); (try clear hs0); (try clear hs1); (try clear hs2); (try clear hs3); (try clear hs4); ) | have hcu2 := Cum.mk hb); have hcu := hcu2; clear hcu2; obtain ⟨hc, hfz⟩ := bcell hcu.h; have hsz := hcu.h.size; (try simp at hsz); (try have hs0 := lt_of_succ_le hsz); (try (have hs1 := lt_pred hsz; (try (have hs2 := lt_pred hs1; (try (have hs3 := lt_pred hs2; (try have hs4 := lt_pred hs3)))))))))
        go_roundw
        case rel =>
          refine ⟨k + 1, l'.set k (mkI (x + k)), cur'.setIfInBounds k (.string (mkI (x + k))), by omega, by simp [hl'], by go_num, by go_num, heap_setCell_same _ _ _ _ _ _ ((hb.block _ hgw).trans hr'), fun i s h => ?_, fun j s hj h => ?_, ?_⟩
          · have hkc : k < cur'.size := (Array.getElem?_eq_some_iff.1 (Hc.out k d hd).1).1
            rw [List.getElem?_set] at h
            rw [Array.getElem?_setIfInBounds]
            by_cases he : k = i
            · subst he
              rw [if_pos rfl, if_pos (by omega)] at h
              rw [if_pos rfl, if_pos hkc]
              obtain rfl := Option.some.inj h
              exact ⟨rfl, mkI_size _ (by omega)⟩
            · rw [if_neg he] at h
              rw [if_neg he]
              exact Hc.out i s h
          · rw [List.getElem?_set] at h
            by_cases he : k = j
            · subst he
              rw [if_pos rfl, if_pos (by omega)] at h
              exact (Option.some.inj h).symm
            · rw [if_neg he] at h
              exact Hm.out j s (by omega) h
          · exact Aside.setCell (has.trans (Aside.of_below hb)) hg
        case measure => simp [intOf]; omega
      · obtain rfl : k = l.length := by omega
        go_wp2_with fail
        go_ret
        exact ⟨l', rfl, hl', ⟨_, c, by rw [hl'], by omega, hc, fun _ => ⟨g, cur', rfl, hg, hr', Hc.out⟩⟩, fun i s h => Hm.out i s (by have := (List.getElem?_eq_some_iff.1 h).1; omega) h, has⟩
theorem c_laws_heldStringS (l : List ByteArray) (v : Value) (x : Int) (w : World) (lo : Nat) (hs : Sl_Str lo w.heap.size w l v) (hm : MkSs x l) (h1 : 0 < x) (h2 : x + l.length ≤ 2305843009213693952) :
    Calls Try.prog 85 #[v, .int .i64 x] w fun e w' => e = .returned (.int .i64 (x + l.length)) ∧ Below w.heap.size w w' := by
  obtain ⟨A, c, rfl, hlc, hc, hA⟩ := hs
  have Hm := Lib.hid hm
  clear hm
  go_enter Try.func85, Try.ntmps85
  go_wp2_with fail
  go_loopw [1, 5] (fun y i wr => ∃ k : Nat, k ≤ l.length ∧ i = .int .i64 k ∧ y = .int .i64 (x + k) ∧ Below w.heap.size w wr) (fun _ i _ => l.length - (intOf i).toNat)
  case atStart => exact ⟨0, Nat.zero_le _, rfl, by simp, (by repeat (first | (with_reducible exact Below.refl _ _) | (with_reducible refine ext_alloc ?_) | ((with_reducible refine ext_setCell ?_ ?_); focus (simp; (try omega))) | (with_reducible refine below_drewN ?_ _) | (with_reducible refine Below.drew ?_) | (with_reducible (apply ext_step; assumption))))⟩
  case round =>
    obtain ⟨k, hk, rfl, rfl, hbr⟩ := hrel
    by_cases hlt : k < l.length
    · obtain ⟨b, o, rfl, -, hb2, hcell⟩ := hA (by omega)
      obtain ⟨d, hd⟩ := exists_at hlt
      obtain ⟨es, -, hcs, hC⟩ := hcell k d hd
      obtain ⟨rfl, ea0⟩ := hC
      obtain rfl := Hm.out k d hd
      have hc0 := (hbr.cell (p := ⟨b, o + k * 1 + 0, none⟩) (by simp; omega)).trans (hcs 0 (by omega))
      simp at hc0
      have hbl : b < wr.heap.size := Nat.lt_of_lt_of_le hb2 hbr.size
      have hk0 : (0 : Int) ≤ k := by omega
      have hk1 : (k : Int) < l.length := by omega
      clear hcs hcell hA hd
      go_wp2_with fail
      refine wp_region_det 7 (by kernel_rfl) (by kernel_rfl) (by decide) ?_
      apply Exists.intro
      refine And.intro ?_ ?_
      · (intro W hW; (try simp only [Act.put, List.setIfInBounds_toArray, List.set_cons_zero, List.set_cons_succ]); first | (go_wp2_with fail; exact ⟨rfl, rfl, Below.refl _ _⟩))
      apply Exists.intro
      refine And.intro ?_ ?_
      · (intro W hW; (try simp only [Act.put, List.setIfInBounds_toArray, List.set_cons_zero, List.set_cons_succ]); first | (go_wp2_with fail; exact ⟨rfl, rfl, Below.refl _ _⟩))
      apply Exists.intro
      refine And.intro ?_ ?_
      · (intro W hW; (try simp only [Act.put, List.setIfInBounds_toArray, List.set_cons_zero, List.set_cons_succ]); first | (go_wp2_with fail; exact ⟨rfl, rfl, Below.refl _ _⟩))
      apply Exists.intro
      refine And.intro ?_ ?_
      · (intro W hW; (try simp only [Act.put, List.setIfInBounds_toArray, List.set_cons_zero, List.set_cons_succ]); first | (obtain ⟨hcW, hfW⟩ := bcell hW; have hsW := hW.size; (try simp at hsW); (try have hsW0 := lt_of_succ_le hsW); (try (have hsW1 := lt_pred hsW; (try (have hsW2 := lt_pred hsW1)))); go_wp2_with fail; exact ⟨rfl, rfl, Below.refl _ _⟩))
      apply Exists.intro
      refine And.intro ?_ ?_
      · (intro W hW; (try simp only [Act.put, List.setIfInBounds_toArray, List.set_cons_zero, List.set_cons_succ]); first | (go_wp2_with fail; exact ⟨rfl, rfl, Below.refl _ _⟩))
      apply Exists.intro
      refine And.intro ?_ ?_
      · (intro W hW; (try simp only [Act.put, List.setIfInBounds_toArray, List.set_cons_zero, List.set_cons_succ]); first | (obtain ⟨hcW, hfW⟩ := bcell hW; have hsW := hW.size; (try simp at hsW); (try have hsW0 := lt_of_succ_le hsW); (try (have hsW1 := lt_pred hsW; (try (have hsW2 := lt_pred hsW1)))); go_wp2_with (first | (go_at_call 51; refine (c_laws_markText _ _ (by omega) (by omega)).mono ?_; rintro e w9 ⟨rfl, hb9⟩)); exact ⟨rfl, rfl, (by repeat (first | (with_reducible exact Below.refl _ _) | (with_reducible refine ext_alloc ?_) | ((with_reducible refine ext_setCell ?_ ?_); focus (simp; (try omega))) | (with_reducible refine below_drewN ?_ _) | (with_reducible refine Below.drew ?_) | (with_reducible (apply ext_step; assumption))))⟩))
      apply Exists.intro
      refine And.intro ?_ ?_
      · (intro W hW; (try simp only [Act.put, List.setIfInBounds_toArray, List.set_cons_zero, List.set_cons_succ]); first | (go_wp2_with fail; exact ⟨rfl, rfl, Below.refl _ _⟩))
      intro w1 hb
      (first | (have hcu2 := Cum.join hcu hb; (try clear hcu); (try clear hc); (try clear hfz); (try clear hsz); (try clear hs0); (try clear hs1); (try clear hs2); (try clear hs3); (try clear hs4); ) | have hcu2 := Cum.mk hb); have hcu := hcu2; clear hcu2; obtain ⟨hc, hfz⟩ := bcell hcu.h; have hsz := hcu.h.size; (try simp at hsz); (try have hs0 := lt_of_succ_le hsz); (try (have hs1 := lt_pred hsz; (try (have hs2 := lt_pred hs1; (try (have hs3 := lt_pred hs2; (try have hs4 := lt_pred hs3)))))))
      (try simp only [Act.put, List.setIfInBounds_toArray, List.set_cons_zero, List.set_cons_succ])
      (try simp only [List.drop_succ_cons, List.drop_nil])
      go_wp2_with fail
      go_roundw
      case rel => exact ⟨k + 1, by omega, by go_num, by go_num, (by repeat (first | (with_reducible exact Below.refl _ _) | (with_reducible refine ext_alloc ?_) | ((with_reducible refine ext_setCell ?_ ?_); focus (simp; (try omega))) | (with_reducible refine below_drewN ?_ _) | (with_reducible refine Below.drew ?_) | (with_reducible (apply ext_step; assumption))))⟩
      case measure => simp [intOf]; omega
    · obtain rfl : k = l.length := by omega
      clear hA
      go_wp2_with fail
      go_ret
      exact ⟨rfl, (by repeat (first | (with_reducible exact Below.refl _ _) | (with_reducible refine ext_alloc ?_) | ((with_reducible refine ext_setCell ?_ ?_); focus (simp; (try omega))) | (with_reducible refine below_drewN ?_ _) | (with_reducible refine Below.drew ?_) | (with_reducible (apply ext_step; assumption))))⟩
end Go.Proofs.Ytmhlnbihppojmaa
