/- Written by wip/tools/pack.py: the texts that FnExactBracedNormal needs, without what it does not need. No conditions. -/
import Derived.Test.YtffelpdefjkeaaaGreatDoorKBrN8
import Derived.Test.YtffelpdefjkeaaaGreatDoorKBrN19
import Derived.Test.YtffelpdefjkeaaaGreatDoorKBrN2
namespace Go.Proofs.YtffelpdefjkeaaaGreatDoor
open Go.RowKit Go.Lib
theorem wholeB_none {s : ByteArray} {i : Nat} (h : ¬ (byteI s i = 45 ∨ figI (byteI s i) = true)) : wholeB s i = (0, -1) := by
  unfold wholeB
  split
  · rw [if_neg (fun e => h (.inl e))]
    refine wholeA_no (.inl ?_)
    rename_i hi
    rw [digE_at hi, if_neg (fun e => h (.inr e))]
  · rfl
theorem sign_rest {s : ByteArray} {i : Nat} (h : i < s.size) (hm : markI (byteI s i) = 0) (hq : byteI s i ≠ 34) (h1 : wordB s i wT = false) (h2 : wordB s i wF = false) (h3 : wordB s i wN = false) : signB s i = if (wholeB s i).2 < 0 then (sign0, -1) else (⟨8, ⟨#[]⟩, (wholeB s i).1, i⟩, (wholeB s i).2) := by
  by_cases hn : byteI s i = 45 ∨ figI (byteI s i) = true
  · exact sign_num h hm hq hn
  · rw [sign_word h hm hq hn, h1, h2, h3, wholeB_none hn]
    rfl
theorem sign_hit {s : ByteArray} {i : Nat} {b : Int} (hb : byteI s i = b) (hb3 : b = 116 ∨ b = 102 ∨ b = 110) : markI (byteI s i) = 0 ∧ byteI s i ≠ 34 ∧ ¬ (byteI s i = 45 ∨ figI (byteI s i) = true) := by
  rw [hb]
  rcases hb3 with rfl | rfl | rfl <;> decide
theorem mark_at (b : Int) (k : Nat) (hk : k < 6) : markI b = (k : Int) + 1 ↔ b = (if k = 0 then 123 else if k = 1 then 125 else if k = 2 then 91 else if k = 3 then 93 else if k = 4 then 58 else 44) := by
  unfold markI
  rcases (show k = 0 ∨ k = 1 ∨ k = 2 ∨ k = 3 ∨ k = 4 ∨ k = 5 by omega) with rfl | rfl | rfl | rfl | rfl | rfl <;> simp <;> (repeat' split) <;> omega
set_option maxHeartbeats 8000000 in
set_option maxRecDepth 20000 in
theorem c_spec_SignAt (s : ByteArray) (i : Nat) (w : World) (hs : s.size ≤ 1048576) (hi : i ≤ 1048576) :
    Calls Tryz.prog 57 #[.string s, .int .i64 i] w fun e w' => e = .returned (.tuple #[.agg (signC (signB s i).1), .int .i64 (signB s i).2]) ∧ Below w.heap.size w w' := by
  by_cases hlt : (i : Int) < s.size
  · have hii : i < s.size := by omega
    have h0 : inB (i : Int) 0 ((s.size : Int) - 1) = true := decide_eq_true (by omega)
    have hz0 : (0 : Int) ≤ i := by omega
    obtain ⟨b, hb⟩ : ∃ b : Nat, b = (s.get! i).toNat := ⟨_, rfl⟩
    have hx : (s[i]'hii).toNat = b := by rw [hb]; exact get_byte s i hii
    have hby : byteI s i = b := by unfold byteI; rw [hb]
    have hb2 : b < 256 := by have := (s.get! i).toNat_lt; omega
    obtain ⟨m, hm⟩ : ∃ m, m = markI b := ⟨_, rfl⟩
    have hmr := markI_range b
    rw [← hm] at hmr
    obtain ⟨hm0, hm6⟩ := hmr
    have HBy := Lib.hid hby
    have HM := Lib.hid hm
    clear hb hby hm
    go_enter Tryz.func57, Tryz.ntmps57
    go_wp2_with (first | (go_at_call 59; refine (c_spec_l01In _ _ _ _).mono ?_; rintro e w' ⟨rfl, rfl⟩))
    go_loopw [7] (fun s7 wr => ∃ k : Nat, k ≤ 6 ∧ s7 = .int .i64 k ∧ (m = 0 ∨ (k : Int) < m) ∧ wr.heap[w.heap.size]? = some (.cells #[.int .i64 0, .string ⟨#[]⟩, .int .i64 0, .int .i64 0] 54 (0, 0)) ∧ Below w.heap.size w wr) (fun s7 _ => 6 - (intOf s7).toNat)
    case atStart => exact ⟨0, by omega, rfl, by omega, heap_at (by simp), bel⟩
    case round =>
      obtain ⟨k, hk, rfl, hmk, hr4, hbr⟩ := hrel
      have HR4 := Lib.hid hr4
      have HBr := Lib.hid hbr
      have HMk := Lib.hid hmk
      have hbw : Below w.heap.size w wr := hbr
      clear hr4 hmk hbr
      by_cases hk6 : (k : Int) < 6
      · have hk6n : k < 6 := by omega
        have hma := mark_at (b : Int) k hk6n
        rw [← HM.out] at hma
        have HMa := Lib.hid hma
        clear hma
        obtain ⟨x0, x1, x2, x3, xf⟩ := row4 HR4.out
        have l4 := row_lt HR4.out
        by_cases hit : m = (k : Int) + 1
        · have HF := Lib.hid (show signB s i = (⟨(k : Int) + 1, ⟨#[]⟩, 0, i⟩, (i : Int) + 1) by
            have h9 := sign_mark hii (by rw [HBy.out, ← HM.out]; omega)
            rw [HBy.out, ← HM.out, hit] at h9
            exact h9)
          have hbv := HMa.out.1 hit
          clear hit HMa
          rcases (show k = 0 ∨ k = 1 ∨ k = 2 ∨ k = 3 ∨ k = 4 ∨ k = 5 by omega) with rfl | rfl | rfl | rfl | rfl | rfl
          · obtain rfl : b = 123 := by (have h9 : (b : Int) = 123 := by simpa using hbv); omega
            clear hbv
            go_wp2_with fail
            refine wp_region_det 7 (by kernel_rfl) (by kernel_rfl) (by decide) ?_
            apply Exists.intro
            refine And.intro ?_ ?_
            · (intro W hW; (try simp only [Act.put, List.setIfInBounds_toArray, List.set_cons_zero, List.set_cons_succ]); first | (go_wp2_with fail; exact ⟨rfl, rfl, Below.refl _ _⟩))
            apply Exists.intro
            refine And.intro ?_ ?_
            · (intro W hW; (try simp only [Act.put, List.setIfInBounds_toArray, List.set_cons_zero, List.set_cons_succ]); first | (go_wp2_with fail; exact ⟨rfl, rfl, Below.refl _ _⟩))
            apply Exists.intro
            refine And.intro ?_ ?_
            · (intro W hW; (try simp only [Act.put, List.setIfInBounds_toArray, List.set_cons_zero, List.set_cons_succ]); first | (go_wp2_with fail; exact ⟨rfl, rfl, Below.refl _ _⟩))
            apply Exists.intro
            refine And.intro ?_ ?_
            · (intro W hW; (try simp only [Act.put, List.setIfInBounds_toArray, List.set_cons_zero, List.set_cons_succ]); first | (go_wp2_with fail; exact ⟨rfl, rfl, Below.refl _ _⟩))
            apply Exists.intro
            refine And.intro ?_ ?_
            · (intro W hW; (try simp only [Act.put, List.setIfInBounds_toArray, List.set_cons_zero, List.set_cons_succ]); first | (go_wp2_with fail; exact ⟨rfl, rfl, Below.refl _ _⟩))
            apply Exists.intro
            refine And.intro ?_ ?_
            · (intro W hW; (try simp only [Act.put, List.setIfInBounds_toArray, List.set_cons_zero, List.set_cons_succ]); first | (go_wp2_with fail; exact ⟨rfl, rfl, Below.refl _ _⟩))
            apply Exists.intro
            refine And.intro ?_ ?_
            · (intro W hW; (try simp only [Act.put, List.setIfInBounds_toArray, List.set_cons_zero, List.set_cons_succ]); first | (go_wp2_with fail; exact ⟨rfl, rfl, Below.refl _ _⟩))
            intro wq hbwq
            (try simp only [Act.put, List.setIfInBounds_toArray, List.set_cons_zero, List.set_cons_succ])
            (try simp only [List.drop_succ_cons, List.drop_nil])
            have Z4 := (hbwq.block w.heap.size l4).trans HR4.out
            obtain ⟨y0, y1, y2, y3, yf⟩ := row4 Z4
            have l5 := row_lt Z4
            have hB9 := HBr.out.trans (hbwq.mono HBr.out.size)
            clear Z4
            go_wp2_with fail
            exact bodyPost_ret (v := .tuple #[.agg #[.int .i64 1, .string ⟨#[]⟩, .int .i64 0, .int .i64 i], .int .i64 ((i : Int) + 1)]) (by simp only [results, Tryz.results57]; go_simp) rfl ⟨by rw [HF.out]; rfl, hB9.trans (Aside.below (S := fun b => b = w.heap.size) (a := wq) (by repeat (first | (with_reducible exact Aside.refl _ _) | ((with_reducible refine aside_set ?_ ?_); (focus (simp; done))) | (with_reducible refine aside_alloc ?_))) hB9.size (fun i hi => by omega))⟩
          · obtain rfl : b = 125 := by (have h9 : (b : Int) = 125 := by simpa using hbv); omega
            clear hbv
            go_wp2_with fail
            refine wp_region_det 7 (by kernel_rfl) (by kernel_rfl) (by decide) ?_
            apply Exists.intro
            refine And.intro ?_ ?_
            · (intro W hW; (try simp only [Act.put, List.setIfInBounds_toArray, List.set_cons_zero, List.set_cons_succ]); first | (go_wp2_with fail; exact ⟨rfl, rfl, Below.refl _ _⟩))
            apply Exists.intro
            refine And.intro ?_ ?_
            · (intro W hW; (try simp only [Act.put, List.setIfInBounds_toArray, List.set_cons_zero, List.set_cons_succ]); first | (go_wp2_with fail; exact ⟨rfl, rfl, Below.refl _ _⟩))
            apply Exists.intro
            refine And.intro ?_ ?_
            · (intro W hW; (try simp only [Act.put, List.setIfInBounds_toArray, List.set_cons_zero, List.set_cons_succ]); first | (go_wp2_with fail; exact ⟨rfl, rfl, Below.refl _ _⟩))
            apply Exists.intro
            refine And.intro ?_ ?_
            · (intro W hW; (try simp only [Act.put, List.setIfInBounds_toArray, List.set_cons_zero, List.set_cons_succ]); first | (go_wp2_with fail; exact ⟨rfl, rfl, Below.refl _ _⟩))
            apply Exists.intro
            refine And.intro ?_ ?_
            · (intro W hW; (try simp only [Act.put, List.setIfInBounds_toArray, List.set_cons_zero, List.set_cons_succ]); first | (go_wp2_with fail; exact ⟨rfl, rfl, Below.refl _ _⟩))
            apply Exists.intro
            refine And.intro ?_ ?_
            · (intro W hW; (try simp only [Act.put, List.setIfInBounds_toArray, List.set_cons_zero, List.set_cons_succ]); first | (go_wp2_with fail; exact ⟨rfl, rfl, Below.refl _ _⟩))
            apply Exists.intro
            refine And.intro ?_ ?_
            · (intro W hW; (try simp only [Act.put, List.setIfInBounds_toArray, List.set_cons_zero, List.set_cons_succ]); first | (go_wp2_with fail; exact ⟨rfl, rfl, Below.refl _ _⟩))
            intro wq hbwq
            (try simp only [Act.put, List.setIfInBounds_toArray, List.set_cons_zero, List.set_cons_succ])
            (try simp only [List.drop_succ_cons, List.drop_nil])
            have Z4 := (hbwq.block w.heap.size l4).trans HR4.out
            obtain ⟨y0, y1, y2, y3, yf⟩ := row4 Z4
            have l5 := row_lt Z4
            have hB9 := HBr.out.trans (hbwq.mono HBr.out.size)
            clear Z4
            go_wp2_with fail
            exact bodyPost_ret (v := .tuple #[.agg #[.int .i64 2, .string ⟨#[]⟩, .int .i64 0, .int .i64 i], .int .i64 ((i : Int) + 1)]) (by simp only [results, Tryz.results57]; go_simp) rfl ⟨by rw [HF.out]; rfl, hB9.trans (Aside.below (S := fun b => b = w.heap.size) (a := wq) (by repeat (first | (with_reducible exact Aside.refl _ _) | ((with_reducible refine aside_set ?_ ?_); (focus (simp; done))) | (with_reducible refine aside_alloc ?_))) hB9.size (fun i hi => by omega))⟩
          · obtain rfl : b = 91 := by (have h9 : (b : Int) = 91 := by simpa using hbv); omega
            clear hbv
            go_wp2_with fail
            refine wp_region_det 7 (by kernel_rfl) (by kernel_rfl) (by decide) ?_
            apply Exists.intro
            refine And.intro ?_ ?_
            · (intro W hW; (try simp only [Act.put, List.setIfInBounds_toArray, List.set_cons_zero, List.set_cons_succ]); first | (go_wp2_with fail; exact ⟨rfl, rfl, Below.refl _ _⟩))
            apply Exists.intro
            refine And.intro ?_ ?_
            · (intro W hW; (try simp only [Act.put, List.setIfInBounds_toArray, List.set_cons_zero, List.set_cons_succ]); first | (go_wp2_with fail; exact ⟨rfl, rfl, Below.refl _ _⟩))
            apply Exists.intro
            refine And.intro ?_ ?_
            · (intro W hW; (try simp only [Act.put, List.setIfInBounds_toArray, List.set_cons_zero, List.set_cons_succ]); first | (go_wp2_with fail; exact ⟨rfl, rfl, Below.refl _ _⟩))
            apply Exists.intro
            refine And.intro ?_ ?_
            · (intro W hW; (try simp only [Act.put, List.setIfInBounds_toArray, List.set_cons_zero, List.set_cons_succ]); first | (go_wp2_with fail; exact ⟨rfl, rfl, Below.refl _ _⟩))
            apply Exists.intro
            refine And.intro ?_ ?_
            · (intro W hW; (try simp only [Act.put, List.setIfInBounds_toArray, List.set_cons_zero, List.set_cons_succ]); first | (go_wp2_with fail; exact ⟨rfl, rfl, Below.refl _ _⟩))
            apply Exists.intro
            refine And.intro ?_ ?_
            · (intro W hW; (try simp only [Act.put, List.setIfInBounds_toArray, List.set_cons_zero, List.set_cons_succ]); first | (go_wp2_with fail; exact ⟨rfl, rfl, Below.refl _ _⟩))
            apply Exists.intro
            refine And.intro ?_ ?_
            · (intro W hW; (try simp only [Act.put, List.setIfInBounds_toArray, List.set_cons_zero, List.set_cons_succ]); first | (go_wp2_with fail; exact ⟨rfl, rfl, Below.refl _ _⟩))
            intro wq hbwq
            (try simp only [Act.put, List.setIfInBounds_toArray, List.set_cons_zero, List.set_cons_succ])
            (try simp only [List.drop_succ_cons, List.drop_nil])
            have Z4 := (hbwq.block w.heap.size l4).trans HR4.out
            obtain ⟨y0, y1, y2, y3, yf⟩ := row4 Z4
            have l5 := row_lt Z4
            have hB9 := HBr.out.trans (hbwq.mono HBr.out.size)
            clear Z4
            go_wp2_with fail
            exact bodyPost_ret (v := .tuple #[.agg #[.int .i64 3, .string ⟨#[]⟩, .int .i64 0, .int .i64 i], .int .i64 ((i : Int) + 1)]) (by simp only [results, Tryz.results57]; go_simp) rfl ⟨by rw [HF.out]; rfl, hB9.trans (Aside.below (S := fun b => b = w.heap.size) (a := wq) (by repeat (first | (with_reducible exact Aside.refl _ _) | ((with_reducible refine aside_set ?_ ?_); (focus (simp; done))) | (with_reducible refine aside_alloc ?_))) hB9.size (fun i hi => by omega))⟩
          · obtain rfl : b = 93 := by (have h9 : (b : Int) = 93 := by simpa using hbv); omega
            clear hbv
            go_wp2_with fail
            refine wp_region_det 7 (by kernel_rfl) (by kernel_rfl) (by decide) ?_
            apply Exists.intro
            refine And.intro ?_ ?_
            · (intro W hW; (try simp only [Act.put, List.setIfInBounds_toArray, List.set_cons_zero, List.set_cons_succ]); first | (go_wp2_with fail; exact ⟨rfl, rfl, Below.refl _ _⟩))
            apply Exists.intro
            refine And.intro ?_ ?_
            · (intro W hW; (try simp only [Act.put, List.setIfInBounds_toArray, List.set_cons_zero, List.set_cons_succ]); first | (go_wp2_with fail; exact ⟨rfl, rfl, Below.refl _ _⟩))
            apply Exists.intro
            refine And.intro ?_ ?_
            · (intro W hW; (try simp only [Act.put, List.setIfInBounds_toArray, List.set_cons_zero, List.set_cons_succ]); first | (go_wp2_with fail; exact ⟨rfl, rfl, Below.refl _ _⟩))
            apply Exists.intro
            refine And.intro ?_ ?_
            · (intro W hW; (try simp only [Act.put, List.setIfInBounds_toArray, List.set_cons_zero, List.set_cons_succ]); first | (go_wp2_with fail; exact ⟨rfl, rfl, Below.refl _ _⟩))
            apply Exists.intro
            refine And.intro ?_ ?_
            · (intro W hW; (try simp only [Act.put, List.setIfInBounds_toArray, List.set_cons_zero, List.set_cons_succ]); first | (go_wp2_with fail; exact ⟨rfl, rfl, Below.refl _ _⟩))
            apply Exists.intro
            refine And.intro ?_ ?_
            · (intro W hW; (try simp only [Act.put, List.setIfInBounds_toArray, List.set_cons_zero, List.set_cons_succ]); first | (go_wp2_with fail; exact ⟨rfl, rfl, Below.refl _ _⟩))
            apply Exists.intro
            refine And.intro ?_ ?_
            · (intro W hW; (try simp only [Act.put, List.setIfInBounds_toArray, List.set_cons_zero, List.set_cons_succ]); first | (go_wp2_with fail; exact ⟨rfl, rfl, Below.refl _ _⟩))
            intro wq hbwq
            (try simp only [Act.put, List.setIfInBounds_toArray, List.set_cons_zero, List.set_cons_succ])
            (try simp only [List.drop_succ_cons, List.drop_nil])
            have Z4 := (hbwq.block w.heap.size l4).trans HR4.out
            obtain ⟨y0, y1, y2, y3, yf⟩ := row4 Z4
            have l5 := row_lt Z4
            have hB9 := HBr.out.trans (hbwq.mono HBr.out.size)
            clear Z4
            go_wp2_with fail
            exact bodyPost_ret (v := .tuple #[.agg #[.int .i64 4, .string ⟨#[]⟩, .int .i64 0, .int .i64 i], .int .i64 ((i : Int) + 1)]) (by simp only [results, Tryz.results57]; go_simp) rfl ⟨by rw [HF.out]; rfl, hB9.trans (Aside.below (S := fun b => b = w.heap.size) (a := wq) (by repeat (first | (with_reducible exact Aside.refl _ _) | ((with_reducible refine aside_set ?_ ?_); (focus (simp; done))) | (with_reducible refine aside_alloc ?_))) hB9.size (fun i hi => by omega))⟩
          · obtain rfl : b = 58 := by (have h9 : (b : Int) = 58 := by simpa using hbv); omega
            clear hbv
            go_wp2_with fail
            refine wp_region_det 7 (by kernel_rfl) (by kernel_rfl) (by decide) ?_
            apply Exists.intro
            refine And.intro ?_ ?_
            · (intro W hW; (try simp only [Act.put, List.setIfInBounds_toArray, List.set_cons_zero, List.set_cons_succ]); first | (go_wp2_with fail; exact ⟨rfl, rfl, Below.refl _ _⟩))
            apply Exists.intro
            refine And.intro ?_ ?_
            · (intro W hW; (try simp only [Act.put, List.setIfInBounds_toArray, List.set_cons_zero, List.set_cons_succ]); first | (go_wp2_with fail; exact ⟨rfl, rfl, Below.refl _ _⟩))
            apply Exists.intro
            refine And.intro ?_ ?_
            · (intro W hW; (try simp only [Act.put, List.setIfInBounds_toArray, List.set_cons_zero, List.set_cons_succ]); first | (go_wp2_with fail; exact ⟨rfl, rfl, Below.refl _ _⟩))
            apply Exists.intro
            refine And.intro ?_ ?_
            · (intro W hW; (try simp only [Act.put, List.setIfInBounds_toArray, List.set_cons_zero, List.set_cons_succ]); first | (go_wp2_with fail; exact ⟨rfl, rfl, Below.refl _ _⟩))
            apply Exists.intro
            refine And.intro ?_ ?_
            · (intro W hW; (try simp only [Act.put, List.setIfInBounds_toArray, List.set_cons_zero, List.set_cons_succ]); first | (go_wp2_with fail; exact ⟨rfl, rfl, Below.refl _ _⟩))
            apply Exists.intro
            refine And.intro ?_ ?_
            · (intro W hW; (try simp only [Act.put, List.setIfInBounds_toArray, List.set_cons_zero, List.set_cons_succ]); first | (go_wp2_with fail; exact ⟨rfl, rfl, Below.refl _ _⟩))
            apply Exists.intro
            refine And.intro ?_ ?_
            · (intro W hW; (try simp only [Act.put, List.setIfInBounds_toArray, List.set_cons_zero, List.set_cons_succ]); first | (go_wp2_with fail; exact ⟨rfl, rfl, Below.refl _ _⟩))
            intro wq hbwq
            (try simp only [Act.put, List.setIfInBounds_toArray, List.set_cons_zero, List.set_cons_succ])
            (try simp only [List.drop_succ_cons, List.drop_nil])
            have Z4 := (hbwq.block w.heap.size l4).trans HR4.out
            obtain ⟨y0, y1, y2, y3, yf⟩ := row4 Z4
            have l5 := row_lt Z4
            have hB9 := HBr.out.trans (hbwq.mono HBr.out.size)
            clear Z4
            go_wp2_with fail
            exact bodyPost_ret (v := .tuple #[.agg #[.int .i64 5, .string ⟨#[]⟩, .int .i64 0, .int .i64 i], .int .i64 ((i : Int) + 1)]) (by simp only [results, Tryz.results57]; go_simp) rfl ⟨by rw [HF.out]; rfl, hB9.trans (Aside.below (S := fun b => b = w.heap.size) (a := wq) (by repeat (first | (with_reducible exact Aside.refl _ _) | ((with_reducible refine aside_set ?_ ?_); (focus (simp; done))) | (with_reducible refine aside_alloc ?_))) hB9.size (fun i hi => by omega))⟩
          · obtain rfl : b = 44 := by (have h9 : (b : Int) = 44 := by simpa using hbv); omega
            clear hbv
            go_wp2_with fail
            refine wp_region_det 7 (by kernel_rfl) (by kernel_rfl) (by decide) ?_
            apply Exists.intro
            refine And.intro ?_ ?_
            · (intro W hW; (try simp only [Act.put, List.setIfInBounds_toArray, List.set_cons_zero, List.set_cons_succ]); first | (go_wp2_with fail; exact ⟨rfl, rfl, Below.refl _ _⟩))
            apply Exists.intro
            refine And.intro ?_ ?_
            · (intro W hW; (try simp only [Act.put, List.setIfInBounds_toArray, List.set_cons_zero, List.set_cons_succ]); first | (go_wp2_with fail; exact ⟨rfl, rfl, Below.refl _ _⟩))
            apply Exists.intro
            refine And.intro ?_ ?_
            · (intro W hW; (try simp only [Act.put, List.setIfInBounds_toArray, List.set_cons_zero, List.set_cons_succ]); first | (go_wp2_with fail; exact ⟨rfl, rfl, Below.refl _ _⟩))
            apply Exists.intro
            refine And.intro ?_ ?_
            · (intro W hW; (try simp only [Act.put, List.setIfInBounds_toArray, List.set_cons_zero, List.set_cons_succ]); first | (go_wp2_with fail; exact ⟨rfl, rfl, Below.refl _ _⟩))
            apply Exists.intro
            refine And.intro ?_ ?_
            · (intro W hW; (try simp only [Act.put, List.setIfInBounds_toArray, List.set_cons_zero, List.set_cons_succ]); first | (go_wp2_with fail; exact ⟨rfl, rfl, Below.refl _ _⟩))
            apply Exists.intro
            refine And.intro ?_ ?_
            · (intro W hW; (try simp only [Act.put, List.setIfInBounds_toArray, List.set_cons_zero, List.set_cons_succ]); first | (go_wp2_with fail; exact ⟨rfl, rfl, Below.refl _ _⟩))
            apply Exists.intro
            refine And.intro ?_ ?_
            · (intro W hW; (try simp only [Act.put, List.setIfInBounds_toArray, List.set_cons_zero, List.set_cons_succ]); first | (go_wp2_with fail; exact ⟨rfl, rfl, Below.refl _ _⟩))
            intro wq hbwq
            (try simp only [Act.put, List.setIfInBounds_toArray, List.set_cons_zero, List.set_cons_succ])
            (try simp only [List.drop_succ_cons, List.drop_nil])
            have Z4 := (hbwq.block w.heap.size l4).trans HR4.out
            obtain ⟨y0, y1, y2, y3, yf⟩ := row4 Z4
            have l5 := row_lt Z4
            have hB9 := HBr.out.trans (hbwq.mono HBr.out.size)
            clear Z4
            go_wp2_with fail
            exact bodyPost_ret (v := .tuple #[.agg #[.int .i64 6, .string ⟨#[]⟩, .int .i64 0, .int .i64 i], .int .i64 ((i : Int) + 1)]) (by simp only [results, Tryz.results57]; go_simp) rfl ⟨by rw [HF.out]; rfl, hB9.trans (Aside.below (S := fun b => b = w.heap.size) (a := wq) (by repeat (first | (with_reducible exact Aside.refl _ _) | ((with_reducible refine aside_set ?_ ?_); (focus (simp; done))) | (with_reducible refine aside_alloc ?_))) hB9.size (fun i hi => by omega))⟩
        · have hbv : ¬ (b : Int) = (if k = 0 then 123 else if k = 1 then 125 else if k = 2 then 91 else if k = 3 then 93 else if k = 4 then 58 else 44) := fun e => hit (HMa.out.2 e)
          have hnx : m = 0 ∨ (k : Int) + 1 < m := by have := HMk.out; omega
          have HNx := Lib.hid hnx
          clear hit HMa hnx
          rcases (show k = 0 ∨ k = 1 ∨ k = 2 ∨ k = 3 ∨ k = 4 ∨ k = 5 by omega) with rfl | rfl | rfl | rfl | rfl | rfl
          · have hv : ¬ (b : Int) = 123 := by simpa using hbv
            have hv2 : ((123 : Int) == b) = false := beq_eq_false_iff_ne.2 (fun e => hv e.symm)
            have hv3 : ((b : Int) == 123) = false := beq_eq_false_iff_ne.2 hv
            have hk : ((⟨#[123, 125, 91, 93, 58, 44]⟩ : ByteArray)[0]'(by decide)).toNat = 123 := rfl
            clear hbv hv
            go_wp2_with fail
            refine wp_region_det 7 (by kernel_rfl) (by kernel_rfl) (by decide) ?_
            apply Exists.intro
            refine And.intro ?_ ?_
            · (intro W hW; (try simp only [Act.put, List.setIfInBounds_toArray, List.set_cons_zero, List.set_cons_succ]); first | (go_wp2_with fail; exact ⟨rfl, rfl, Below.refl _ _⟩))
            apply Exists.intro
            refine And.intro ?_ ?_
            · (intro W hW; (try simp only [Act.put, List.setIfInBounds_toArray, List.set_cons_zero, List.set_cons_succ]); first | (go_wp2_with fail; exact ⟨rfl, rfl, Below.refl _ _⟩))
            apply Exists.intro
            refine And.intro ?_ ?_
            · (intro W hW; (try simp only [Act.put, List.setIfInBounds_toArray, List.set_cons_zero, List.set_cons_succ]); first | (go_wp2_with fail; exact ⟨rfl, rfl, Below.refl _ _⟩))
            apply Exists.intro
            refine And.intro ?_ ?_
            · (intro W hW; (try simp only [Act.put, List.setIfInBounds_toArray, List.set_cons_zero, List.set_cons_succ]); first | (go_wp2_with fail; exact ⟨rfl, rfl, Below.refl _ _⟩))
            apply Exists.intro
            refine And.intro ?_ ?_
            · (intro W hW; (try simp only [Act.put, List.setIfInBounds_toArray, List.set_cons_zero, List.set_cons_succ]); first | (go_wp2_with fail; exact ⟨rfl, rfl, Below.refl _ _⟩))
            apply Exists.intro
            refine And.intro ?_ ?_
            · (intro W hW; (try simp only [Act.put, List.setIfInBounds_toArray, List.set_cons_zero, List.set_cons_succ]); first | (go_wp2_with fail; exact ⟨rfl, rfl, Below.refl _ _⟩))
            apply Exists.intro
            refine And.intro ?_ ?_
            · (intro W hW; (try simp only [Act.put, List.setIfInBounds_toArray, List.set_cons_zero, List.set_cons_succ]); first | (go_wp2_with fail; exact ⟨rfl, rfl, Below.refl _ _⟩))
            intro wq hbwq
            (try simp only [Act.put, List.setIfInBounds_toArray, List.set_cons_zero, List.set_cons_succ])
            (try simp only [List.drop_succ_cons, List.drop_nil])
            have hB9 := HBr.out.trans (hbwq.mono HBr.out.size)
            have Z4 := Lib.hid ((hbwq.block w.heap.size l4).trans HR4.out)
            go_wp2_with fail
            go_roundw
            case rel => exact ⟨1, by omega, rfl, by have := HNx.out; omega, Z4.out, hB9⟩
            case measure => simp [intOf]
          · have hv : ¬ (b : Int) = 125 := by simpa using hbv
            have hv2 : ((125 : Int) == b) = false := beq_eq_false_iff_ne.2 (fun e => hv e.symm)
            have hv3 : ((b : Int) == 125) = false := beq_eq_false_iff_ne.2 hv
            have hk : ((⟨#[123, 125, 91, 93, 58, 44]⟩ : ByteArray)[1]'(by decide)).toNat = 125 := rfl
            clear hbv hv
            go_wp2_with fail
            refine wp_region_det 7 (by kernel_rfl) (by kernel_rfl) (by decide) ?_
            apply Exists.intro
            refine And.intro ?_ ?_
            · (intro W hW; (try simp only [Act.put, List.setIfInBounds_toArray, List.set_cons_zero, List.set_cons_succ]); first | (go_wp2_with fail; exact ⟨rfl, rfl, Below.refl _ _⟩))
            apply Exists.intro
            refine And.intro ?_ ?_
            · (intro W hW; (try simp only [Act.put, List.setIfInBounds_toArray, List.set_cons_zero, List.set_cons_succ]); first | (go_wp2_with fail; exact ⟨rfl, rfl, Below.refl _ _⟩))
            apply Exists.intro
            refine And.intro ?_ ?_
            · (intro W hW; (try simp only [Act.put, List.setIfInBounds_toArray, List.set_cons_zero, List.set_cons_succ]); first | (go_wp2_with fail; exact ⟨rfl, rfl, Below.refl _ _⟩))
            apply Exists.intro
            refine And.intro ?_ ?_
            · (intro W hW; (try simp only [Act.put, List.setIfInBounds_toArray, List.set_cons_zero, List.set_cons_succ]); first | (go_wp2_with fail; exact ⟨rfl, rfl, Below.refl _ _⟩))
            apply Exists.intro
            refine And.intro ?_ ?_
            · (intro W hW; (try simp only [Act.put, List.setIfInBounds_toArray, List.set_cons_zero, List.set_cons_succ]); first | (go_wp2_with fail; exact ⟨rfl, rfl, Below.refl _ _⟩))
            apply Exists.intro
            refine And.intro ?_ ?_
            · (intro W hW; (try simp only [Act.put, List.setIfInBounds_toArray, List.set_cons_zero, List.set_cons_succ]); first | (go_wp2_with fail; exact ⟨rfl, rfl, Below.refl _ _⟩))
            apply Exists.intro
            refine And.intro ?_ ?_
            · (intro W hW; (try simp only [Act.put, List.setIfInBounds_toArray, List.set_cons_zero, List.set_cons_succ]); first | (go_wp2_with fail; exact ⟨rfl, rfl, Below.refl _ _⟩))
            intro wq hbwq
            (try simp only [Act.put, List.setIfInBounds_toArray, List.set_cons_zero, List.set_cons_succ])
            (try simp only [List.drop_succ_cons, List.drop_nil])
            have hB9 := HBr.out.trans (hbwq.mono HBr.out.size)
            have Z4 := Lib.hid ((hbwq.block w.heap.size l4).trans HR4.out)
            go_wp2_with fail
            go_roundw
            case rel => exact ⟨2, by omega, rfl, by have := HNx.out; omega, Z4.out, hB9⟩
            case measure => simp [intOf]
          · have hv : ¬ (b : Int) = 91 := by simpa using hbv
            have hv2 : ((91 : Int) == b) = false := beq_eq_false_iff_ne.2 (fun e => hv e.symm)
            have hv3 : ((b : Int) == 91) = false := beq_eq_false_iff_ne.2 hv
            have hk : ((⟨#[123, 125, 91, 93, 58, 44]⟩ : ByteArray)[2]'(by decide)).toNat = 91 := rfl
            clear hbv hv
            go_wp2_with fail
            refine wp_region_det 7 (by kernel_rfl) (by kernel_rfl) (by decide) ?_
            apply Exists.intro
            refine And.intro ?_ ?_
            · (intro W hW; (try simp only [Act.put, List.setIfInBounds_toArray, List.set_cons_zero, List.set_cons_succ]); first | (go_wp2_with fail; exact ⟨rfl, rfl, Below.refl _ _⟩))
            apply Exists.intro
            refine And.intro ?_ ?_
            · (intro W hW; (try simp only [Act.put, List.setIfInBounds_toArray, List.set_cons_zero, List.set_cons_succ]); first | (go_wp2_with fail; exact ⟨rfl, rfl, Below.refl _ _⟩))
            apply Exists.intro
            refine And.intro ?_ ?_
            · (intro W hW; (try simp only [Act.put, List.setIfInBounds_toArray, List.set_cons_zero, List.set_cons_succ]); first | (go_wp2_with fail; exact ⟨rfl, rfl, Below.refl _ _⟩))
            apply Exists.intro
            refine And.intro ?_ ?_
            · (intro W hW; (try simp only [Act.put, List.setIfInBounds_toArray, List.set_cons_zero, List.set_cons_succ]); first | (go_wp2_with fail; exact ⟨rfl, rfl, Below.refl _ _⟩))
            apply Exists.intro
            refine And.intro ?_ ?_
            · (intro W hW; (try simp only [Act.put, List.setIfInBounds_toArray, List.set_cons_zero, List.set_cons_succ]); first | (go_wp2_with fail; exact ⟨rfl, rfl, Below.refl _ _⟩))
            apply Exists.intro
            refine And.intro ?_ ?_
            · (intro W hW; (try simp only [Act.put, List.setIfInBounds_toArray, List.set_cons_zero, List.set_cons_succ]); first | (go_wp2_with fail; exact ⟨rfl, rfl, Below.refl _ _⟩))
            apply Exists.intro
            refine And.intro ?_ ?_
            · (intro W hW; (try simp only [Act.put, List.setIfInBounds_toArray, List.set_cons_zero, List.set_cons_succ]); first | (go_wp2_with fail; exact ⟨rfl, rfl, Below.refl _ _⟩))
            intro wq hbwq
            (try simp only [Act.put, List.setIfInBounds_toArray, List.set_cons_zero, List.set_cons_succ])
            (try simp only [List.drop_succ_cons, List.drop_nil])
            have hB9 := HBr.out.trans (hbwq.mono HBr.out.size)
            have Z4 := Lib.hid ((hbwq.block w.heap.size l4).trans HR4.out)
            go_wp2_with fail
            go_roundw
            case rel => exact ⟨3, by omega, rfl, by have := HNx.out; omega, Z4.out, hB9⟩
            case measure => simp [intOf]
          · have hv : ¬ (b : Int) = 93 := by simpa using hbv
            have hv2 : ((93 : Int) == b) = false := beq_eq_false_iff_ne.2 (fun e => hv e.symm)
            have hv3 : ((b : Int) == 93) = false := beq_eq_false_iff_ne.2 hv
            have hk : ((⟨#[123, 125, 91, 93, 58, 44]⟩ : ByteArray)[3]'(by decide)).toNat = 93 := rfl
            clear hbv hv
            go_wp2_with fail
            refine wp_region_det 7 (by kernel_rfl) (by kernel_rfl) (by decide) ?_
            apply Exists.intro
            refine And.intro ?_ ?_
            · (intro W hW; (try simp only [Act.put, List.setIfInBounds_toArray, List.set_cons_zero, List.set_cons_succ]); first | (go_wp2_with fail; exact ⟨rfl, rfl, Below.refl _ _⟩))
            apply Exists.intro
            refine And.intro ?_ ?_
            · (intro W hW; (try simp only [Act.put, List.setIfInBounds_toArray, List.set_cons_zero, List.set_cons_succ]); first | (go_wp2_with fail; exact ⟨rfl, rfl, Below.refl _ _⟩))
            apply Exists.intro
            refine And.intro ?_ ?_
            · (intro W hW; (try simp only [Act.put, List.setIfInBounds_toArray, List.set_cons_zero, List.set_cons_succ]); first | (go_wp2_with fail; exact ⟨rfl, rfl, Below.refl _ _⟩))
            apply Exists.intro
            refine And.intro ?_ ?_
            · (intro W hW; (try simp only [Act.put, List.setIfInBounds_toArray, List.set_cons_zero, List.set_cons_succ]); first | (go_wp2_with fail; exact ⟨rfl, rfl, Below.refl _ _⟩))
            apply Exists.intro
            refine And.intro ?_ ?_
            · (intro W hW; (try simp only [Act.put, List.setIfInBounds_toArray, List.set_cons_zero, List.set_cons_succ]); first | (go_wp2_with fail; exact ⟨rfl, rfl, Below.refl _ _⟩))
            apply Exists.intro
            refine And.intro ?_ ?_
            · (intro W hW; (try simp only [Act.put, List.setIfInBounds_toArray, List.set_cons_zero, List.set_cons_succ]); first | (go_wp2_with fail; exact ⟨rfl, rfl, Below.refl _ _⟩))
            apply Exists.intro
            refine And.intro ?_ ?_
            · (intro W hW; (try simp only [Act.put, List.setIfInBounds_toArray, List.set_cons_zero, List.set_cons_succ]); first | (go_wp2_with fail; exact ⟨rfl, rfl, Below.refl _ _⟩))
            intro wq hbwq
            (try simp only [Act.put, List.setIfInBounds_toArray, List.set_cons_zero, List.set_cons_succ])
            (try simp only [List.drop_succ_cons, List.drop_nil])
            have hB9 := HBr.out.trans (hbwq.mono HBr.out.size)
            have Z4 := Lib.hid ((hbwq.block w.heap.size l4).trans HR4.out)
            go_wp2_with fail
            go_roundw
            case rel => exact ⟨4, by omega, rfl, by have := HNx.out; omega, Z4.out, hB9⟩
            case measure => simp [intOf]
          · have hv : ¬ (b : Int) = 58 := by simpa using hbv
            have hv2 : ((58 : Int) == b) = false := beq_eq_false_iff_ne.2 (fun e => hv e.symm)
            have hv3 : ((b : Int) == 58) = false := beq_eq_false_iff_ne.2 hv
            have hk : ((⟨#[123, 125, 91, 93, 58, 44]⟩ : ByteArray)[4]'(by decide)).toNat = 58 := rfl
            clear hbv hv
            go_wp2_with fail
            refine wp_region_det 7 (by kernel_rfl) (by kernel_rfl) (by decide) ?_
            apply Exists.intro
            refine And.intro ?_ ?_
            · (intro W hW; (try simp only [Act.put, List.setIfInBounds_toArray, List.set_cons_zero, List.set_cons_succ]); first | (go_wp2_with fail; exact ⟨rfl, rfl, Below.refl _ _⟩))
            apply Exists.intro
            refine And.intro ?_ ?_
            · (intro W hW; (try simp only [Act.put, List.setIfInBounds_toArray, List.set_cons_zero, List.set_cons_succ]); first | (go_wp2_with fail; exact ⟨rfl, rfl, Below.refl _ _⟩))
            apply Exists.intro
            refine And.intro ?_ ?_
            · (intro W hW; (try simp only [Act.put, List.setIfInBounds_toArray, List.set_cons_zero, List.set_cons_succ]); first | (go_wp2_with fail; exact ⟨rfl, rfl, Below.refl _ _⟩))
            apply Exists.intro
            refine And.intro ?_ ?_
            · (intro W hW; (try simp only [Act.put, List.setIfInBounds_toArray, List.set_cons_zero, List.set_cons_succ]); first | (go_wp2_with fail; exact ⟨rfl, rfl, Below.refl _ _⟩))
            apply Exists.intro
            refine And.intro ?_ ?_
            · (intro W hW; (try simp only [Act.put, List.setIfInBounds_toArray, List.set_cons_zero, List.set_cons_succ]); first | (go_wp2_with fail; exact ⟨rfl, rfl, Below.refl _ _⟩))
            apply Exists.intro
            refine And.intro ?_ ?_
            · (intro W hW; (try simp only [Act.put, List.setIfInBounds_toArray, List.set_cons_zero, List.set_cons_succ]); first | (go_wp2_with fail; exact ⟨rfl, rfl, Below.refl _ _⟩))
            apply Exists.intro
            refine And.intro ?_ ?_
            · (intro W hW; (try simp only [Act.put, List.setIfInBounds_toArray, List.set_cons_zero, List.set_cons_succ]); first | (go_wp2_with fail; exact ⟨rfl, rfl, Below.refl _ _⟩))
            intro wq hbwq
            (try simp only [Act.put, List.setIfInBounds_toArray, List.set_cons_zero, List.set_cons_succ])
            (try simp only [List.drop_succ_cons, List.drop_nil])
            have hB9 := HBr.out.trans (hbwq.mono HBr.out.size)
            have Z4 := Lib.hid ((hbwq.block w.heap.size l4).trans HR4.out)
            go_wp2_with fail
            go_roundw
            case rel => exact ⟨5, by omega, rfl, by have := HNx.out; omega, Z4.out, hB9⟩
            case measure => simp [intOf]
          · have hv : ¬ (b : Int) = 44 := by simpa using hbv
            have hv2 : ((44 : Int) == b) = false := beq_eq_false_iff_ne.2 (fun e => hv e.symm)
            have hv3 : ((b : Int) == 44) = false := beq_eq_false_iff_ne.2 hv
            have hk : ((⟨#[123, 125, 91, 93, 58, 44]⟩ : ByteArray)[5]'(by decide)).toNat = 44 := rfl
            clear hbv hv
            go_wp2_with fail
            refine wp_region_det 7 (by kernel_rfl) (by kernel_rfl) (by decide) ?_
            apply Exists.intro
            refine And.intro ?_ ?_
            · (intro W hW; (try simp only [Act.put, List.setIfInBounds_toArray, List.set_cons_zero, List.set_cons_succ]); first | (go_wp2_with fail; exact ⟨rfl, rfl, Below.refl _ _⟩))
            apply Exists.intro
            refine And.intro ?_ ?_
            · (intro W hW; (try simp only [Act.put, List.setIfInBounds_toArray, List.set_cons_zero, List.set_cons_succ]); first | (go_wp2_with fail; exact ⟨rfl, rfl, Below.refl _ _⟩))
            apply Exists.intro
            refine And.intro ?_ ?_
            · (intro W hW; (try simp only [Act.put, List.setIfInBounds_toArray, List.set_cons_zero, List.set_cons_succ]); first | (go_wp2_with fail; exact ⟨rfl, rfl, Below.refl _ _⟩))
            apply Exists.intro
            refine And.intro ?_ ?_
            · (intro W hW; (try simp only [Act.put, List.setIfInBounds_toArray, List.set_cons_zero, List.set_cons_succ]); first | (go_wp2_with fail; exact ⟨rfl, rfl, Below.refl _ _⟩))
            apply Exists.intro
            refine And.intro ?_ ?_
            · (intro W hW; (try simp only [Act.put, List.setIfInBounds_toArray, List.set_cons_zero, List.set_cons_succ]); first | (go_wp2_with fail; exact ⟨rfl, rfl, Below.refl _ _⟩))
            apply Exists.intro
            refine And.intro ?_ ?_
            · (intro W hW; (try simp only [Act.put, List.setIfInBounds_toArray, List.set_cons_zero, List.set_cons_succ]); first | (go_wp2_with fail; exact ⟨rfl, rfl, Below.refl _ _⟩))
            apply Exists.intro
            refine And.intro ?_ ?_
            · (intro W hW; (try simp only [Act.put, List.setIfInBounds_toArray, List.set_cons_zero, List.set_cons_succ]); first | (go_wp2_with fail; exact ⟨rfl, rfl, Below.refl _ _⟩))
            intro wq hbwq
            (try simp only [Act.put, List.setIfInBounds_toArray, List.set_cons_zero, List.set_cons_succ])
            (try simp only [List.drop_succ_cons, List.drop_nil])
            have hB9 := HBr.out.trans (hbwq.mono HBr.out.size)
            have Z4 := Lib.hid ((hbwq.block w.heap.size l4).trans HR4.out)
            go_wp2_with fail
            go_roundw
            case rel => exact ⟨6, by omega, rfl, by have := HNx.out; omega, Z4.out, hB9⟩
            case measure => simp [intOf]
      · have HM0 := Lib.hid (show markI (byteI s i) = 0 by rw [HBy.out, ← HM.out]; have := HMk.out; omega)
        have l4 := row_lt HR4.out
        clear HMk
        go_wp2_with fail
        go_loopw [9] (fun s9 wv => ∃ k : Nat, k ≤ 3 ∧ s9 = .int .i64 k ∧ (1 ≤ k → wordB s i wT = false) ∧ (2 ≤ k → wordB s i wF = false) ∧ (3 ≤ k → wordB s i wN = false) ∧ wv.heap[w.heap.size]? = some (.cells #[.int .i64 0, .string ⟨#[]⟩, .int .i64 0, .int .i64 0] 54 (0, 0)) ∧ wv.heap[wr.heap.size]? = some (.cells #[.string ⟨#[116, 114, 117, 101]⟩, .string ⟨#[102, 97, 108, 115, 101]⟩, .string ⟨#[110, 117, 108, 108]⟩] 9 (0, 0)) ∧ Below wr.heap.size wr wv) (fun s9 _ => 3 - (intOf s9).toNat)
        case atStart => exact ⟨0, by omega, rfl, fun h => by omega, fun h => by omega, fun h => by omega, (Below.heap_alloc _ _ _ l4).trans HR4.out, heap_at (by simp), bel⟩
        case round =>
          obtain ⟨k, hk3, rfl, hw1, hw2, hw3, hz4, hzw, hbv⟩ := hrel
          have HW := Lib.hid (And.intro hw1 (And.intro hw2 hw3))
          have HZ4 := Lib.hid hz4
          have HZw := Lib.hid hzw
          have HBv := Lib.hid hbv
          have hbww := HBr.out.trans (hbv.mono HBr.out.size)
          have HBW := Lib.hid hbww
          obtain ⟨x0, x1, x2, x3, xf⟩ := row4 hz4
          obtain ⟨z0, z1, z2, zf⟩ := row3 hzw
          have l5 := row_lt hz4
          have l6 := row_lt hzw
          clear hw1 hw2 hw3 hz4 hzw hbv hbww
          by_cases hk4 : (k : Int) < 3
          · rcases (show k = 0 ∨ k = 1 ∨ k = 2 by omega) with rfl | rfl | rfl
            · rcases hwb : wordB s i wT with _ | _
              · have HWb := Lib.hid hwb
                clear hwb
                go_wp2_with fail
                refine (c_l09Word s ⟨#[116, 114, 117, 101]⟩ i _ hs hi (by decide) (by decide)).mono ?_
                rintro e w9 ⟨rfl, rfl⟩
                rw [show wordB s i (⟨#[116, 114, 117, 101]⟩ : ByteArray).data.toList = false from HWb.out]
                go_wp2_with fail
                go_roundw
                case rel => exact ⟨1, by omega, rfl, fun _ => (by first | exact HWb.out | trivial), fun h => by omega, fun h => by omega, HZ4.out, HZw.out, HBv.out⟩
                case measure => simp [intOf]
              · have HF := Lib.hid (show signB s i = (⟨9, ⟨#[]⟩, 0, i⟩, (i : Int) + 4) by
                  have h9 := (word_first hwb).2
                  obtain ⟨a1, a2, a3⟩ := sign_hit (s := s) (i := i) (b := 116) h9 (by omega)
                  rw [sign_word hii a1 a2 a3, if_pos hwb])
                have hft := word_fits (by decide) hwb
                have hfi : (i : Int) + 4 ≤ s.size := by simp [wT] at hft; omega
                have HWb := Lib.hid hwb
                clear hwb hft
                go_wp2_with fail
                refine (c_l09Word s ⟨#[116, 114, 117, 101]⟩ i _ hs hi (by decide) (by decide)).mono ?_
                rintro e w9 ⟨rfl, rfl⟩
                rw [show wordB s i (⟨#[116, 114, 117, 101]⟩ : ByteArray).data.toList = true from HWb.out]
                go_wp2_with fail
                go_region_law (fail)
                all_goals
                  (try go_wp2_with fail)
                  have hw1 : IntKind.i64.wrap 9 = 9 := by rw [IntKind.wrap_i64]; omega
                  have hw2 : IntKind.i64.wrap ((i : Int) + 4) = (i : Int) + 4 := by rw [IntKind.wrap_i64]; omega
                  exact bodyPost_ret (v := .tuple #[.agg #[.int .i64 9, .string ⟨#[]⟩, .int .i64 0, .int .i64 i], .int .i64 ((i : Int) + 4)]) (by simp only [results, Tryz.results57]; go_simp) rfl ⟨by rw [HF.out]; rfl, (by have hbx := HBW.out; exact bel)⟩
            · rcases hwb : wordB s i wF with _ | _
              · have HWb := Lib.hid hwb
                clear hwb
                go_wp2_with fail
                refine (c_l09Word s ⟨#[102, 97, 108, 115, 101]⟩ i _ hs hi (by decide) (by decide)).mono ?_
                rintro e w9 ⟨rfl, rfl⟩
                rw [show wordB s i (⟨#[102, 97, 108, 115, 101]⟩ : ByteArray).data.toList = false from HWb.out]
                go_wp2_with fail
                go_roundw
                case rel => exact ⟨2, by omega, rfl, fun _ => HW.out.1 (by omega), fun _ => (by first | exact HWb.out | trivial), fun h => by omega, HZ4.out, HZw.out, HBv.out⟩
                case measure => simp [intOf]
              · have HF := Lib.hid (show signB s i = (⟨10, ⟨#[]⟩, 0, i⟩, (i : Int) + 5) by
                  have h9 := (word_first hwb).2
                  obtain ⟨a1, a2, a3⟩ := sign_hit (s := s) (i := i) (b := 102) h9 (by omega)
                  rw [sign_word hii a1 a2 a3, HW.out.1 (by omega), if_neg (by decide), if_pos hwb])
                have hft := word_fits (by decide) hwb
                have hfi : (i : Int) + 5 ≤ s.size := by simp [wF] at hft; omega
                have HWb := Lib.hid hwb
                clear hwb hft
                go_wp2_with fail
                refine (c_l09Word s ⟨#[102, 97, 108, 115, 101]⟩ i _ hs hi (by decide) (by decide)).mono ?_
                rintro e w9 ⟨rfl, rfl⟩
                rw [show wordB s i (⟨#[102, 97, 108, 115, 101]⟩ : ByteArray).data.toList = true from HWb.out]
                go_wp2_with fail
                go_region_law (fail)
                all_goals
                  (try go_wp2_with fail)
                  have hw1 : IntKind.i64.wrap 10 = 10 := by rw [IntKind.wrap_i64]; omega
                  have hw2 : IntKind.i64.wrap ((i : Int) + 5) = (i : Int) + 5 := by rw [IntKind.wrap_i64]; omega
                  exact bodyPost_ret (v := .tuple #[.agg #[.int .i64 10, .string ⟨#[]⟩, .int .i64 0, .int .i64 i], .int .i64 ((i : Int) + 5)]) (by simp only [results, Tryz.results57]; go_simp) rfl ⟨by rw [HF.out]; rfl, (by have hbx := HBW.out; exact bel)⟩
            · rcases hwb : wordB s i wN with _ | _
              · have HWb := Lib.hid hwb
                clear hwb
                go_wp2_with fail
                refine (c_l09Word s ⟨#[110, 117, 108, 108]⟩ i _ hs hi (by decide) (by decide)).mono ?_
                rintro e w9 ⟨rfl, rfl⟩
                rw [show wordB s i (⟨#[110, 117, 108, 108]⟩ : ByteArray).data.toList = false from HWb.out]
                go_wp2_with fail
                go_roundw
                case rel => exact ⟨3, by omega, rfl, fun _ => HW.out.1 (by omega), fun _ => HW.out.2.1 (by omega), fun _ => (by first | exact HWb.out | trivial), HZ4.out, HZw.out, HBv.out⟩
                case measure => simp [intOf]
              · have HF := Lib.hid (show signB s i = (⟨11, ⟨#[]⟩, 0, i⟩, (i : Int) + 4) by
                  have h9 := (word_first hwb).2
                  obtain ⟨a1, a2, a3⟩ := sign_hit (s := s) (i := i) (b := 110) h9 (by omega)
                  rw [sign_word hii a1 a2 a3, HW.out.1 (by omega), if_neg (by decide), HW.out.2.1 (by omega), if_neg (by decide), if_pos hwb])
                have hft := word_fits (by decide) hwb
                have hfi : (i : Int) + 4 ≤ s.size := by simp [wN] at hft; omega
                have HWb := Lib.hid hwb
                clear hwb hft
                go_wp2_with fail
                refine (c_l09Word s ⟨#[110, 117, 108, 108]⟩ i _ hs hi (by decide) (by decide)).mono ?_
                rintro e w9 ⟨rfl, rfl⟩
                rw [show wordB s i (⟨#[110, 117, 108, 108]⟩ : ByteArray).data.toList = true from HWb.out]
                go_wp2_with fail
                go_region_law (fail)
                all_goals
                  (try go_wp2_with fail)
                  have hw1 : IntKind.i64.wrap 11 = 11 := by rw [IntKind.wrap_i64]; omega
                  have hw2 : IntKind.i64.wrap ((i : Int) + 4) = (i : Int) + 4 := by rw [IntKind.wrap_i64]; omega
                  exact bodyPost_ret (v := .tuple #[.agg #[.int .i64 11, .string ⟨#[]⟩, .int .i64 0, .int .i64 i], .int .i64 ((i : Int) + 4)]) (by simp only [results, Tryz.results57]; go_simp) rfl ⟨by rw [HF.out]; rfl, (by have hbx := HBW.out; exact bel)⟩
          · obtain rfl : k = 3 := by omega
            have h9w := HW.out
            by_cases c34 : (b : Int) = 34
            · have HS2 := Lib.hid (sign_quot hii (show byteI s i = 34 by rw [HBy.out]; exact c34))
              have d34 : ((b : Int) == 34) = true := beq_iff_eq.2 c34
              clear c34
              obtain ⟨q, hq⟩ : ∃ q, q = (quotB s i).2 := ⟨_, rfl⟩
              obtain ⟨t, ht⟩ : ∃ t, t = (quotB s i).1 := ⟨_, rfl⟩
              rw [← hq, ← ht] at HS2
              have HQT := Lib.hid (And.intro ht hq)
              clear hq ht h9w
              by_cases q0 : q < 0
              · have HF := Lib.hid (show signB s i = (sign0, -1) by rw [HS2.out, if_pos q0])
                go_wp2_with fail
                refine (c_spec_ReadQuoted s i _ hs hi).mono ?_
                rintro e w1 ⟨rfl, hb1⟩
                rw [← HQT.out.1, ← HQT.out.2]
                have Z4 := (hb1.block w.heap.size l5).trans HZ4.out
                obtain ⟨y0, y1, y2, y3, yf⟩ := row4 Z4
                have l7 := row_lt Z4
                have hB9 := HBW.out.trans (hb1.mono HBW.out.size)
                clear Z4
                go_wp2_with fail
                exact bodyPost_ret (v := .tuple #[.agg #[.int .i64 0, .string ⟨#[]⟩, .int .i64 0, .int .i64 0], .int .i64 (-1)]) (by simp only [results, Tryz.results57]; go_simp) rfl ⟨by rw [HF.out]; rfl, hB9.trans (Aside.below (S := fun b => b = w.heap.size) (a := w1) (by repeat (first | (with_reducible exact Aside.refl _ _) | ((with_reducible refine aside_set ?_ ?_); (focus (simp; done))) | (with_reducible refine aside_alloc ?_))) hB9.size (fun i hi => by omega))⟩
              · have HF := Lib.hid (show signB s i = (⟨7, t, 0, i⟩, q) by rw [HS2.out, if_neg q0])
                have q1 : decide (q < 0) = false := decide_eq_false q0
                have q2 : 0 ≤ q := by omega
                clear q0
                go_wp2_with fail
                refine (c_spec_ReadQuoted s i _ hs hi).mono ?_
                rintro e w1 ⟨rfl, hb1⟩
                rw [← HQT.out.1, ← HQT.out.2]
                have Z4 := (hb1.block w.heap.size l5).trans HZ4.out
                obtain ⟨y0, y1, y2, y3, yf⟩ := row4 Z4
                have l7 := row_lt Z4
                have hB9 := HBW.out.trans (hb1.mono HBW.out.size)
                clear Z4
                go_wp2_with fail
                exact bodyPost_ret (v := .tuple #[.agg #[.int .i64 7, .string t, .int .i64 0, .int .i64 i], .int .i64 q]) (by simp only [results, Tryz.results57]; go_simp) rfl ⟨by rw [HF.out]; rfl, hB9.trans (Aside.below (S := fun b => b = w.heap.size) (a := w1) (by repeat (first | (with_reducible exact Aside.refl _ _) | ((with_reducible refine aside_set ?_ ?_); (focus (simp; done))) | (with_reducible refine aside_alloc ?_))) hB9.size (fun i hi => by omega))⟩
            · have HS2 := Lib.hid (sign_rest hii HM0.out (show byteI s i ≠ 34 by rw [HBy.out]; exact c34) (h9w.1 (by omega)) (h9w.2.1 (by omega)) (h9w.2.2 (by omega)))
              have d34 : ((b : Int) == 34) = false := beq_eq_false_iff_ne.2 c34
              clear c34
              obtain ⟨q, hq⟩ : ∃ q, q = (wholeB s i).2 := ⟨_, rfl⟩
              obtain ⟨t, ht⟩ : ∃ t, t = (wholeB s i).1 := ⟨_, rfl⟩
              rw [← hq, ← ht] at HS2
              have HQT := Lib.hid (And.intro ht hq)
              have hqn := wholeB_next s i
              rw [← hq, ← ht] at hqn
              have HQN := Lib.hid hqn
              clear hqn
              clear hq ht h9w
              by_cases q0 : q < 0
              · have HF := Lib.hid (show signB s i = (sign0, -1) by rw [HS2.out, if_pos q0])
                go_wp2_with fail
                refine (c_spec_ReadWhole s i _ hs hi).mono ?_
                rintro e w1 ⟨rfl, hb1⟩
                rw [← HQT.out.1, ← HQT.out.2]
                have Z4 := (hb1.block w.heap.size l5).trans HZ4.out
                obtain ⟨y0, y1, y2, y3, yf⟩ := row4 Z4
                have l7 := row_lt Z4
                have hB9 := HBW.out.trans (hb1.mono HBW.out.size)
                clear Z4
                go_wp2_with fail
                exact bodyPost_ret (v := .tuple #[.agg #[.int .i64 0, .string ⟨#[]⟩, .int .i64 0, .int .i64 0], .int .i64 (-1)]) (by simp only [results, Tryz.results57]; go_simp) rfl ⟨by rw [HF.out]; rfl, hB9.trans (Aside.below (S := fun b => b = w.heap.size) (a := w1) (by repeat (first | (with_reducible exact Aside.refl _ _) | ((with_reducible refine aside_set ?_ ?_); (focus (simp; done))) | (with_reducible refine aside_alloc ?_))) hB9.size (fun i hi => by omega))⟩
              · have HF := Lib.hid (show signB s i = (⟨8, ⟨#[]⟩, t, i⟩, q) by rw [HS2.out, if_neg q0])
                have q1 : decide (q < 0) = false := decide_eq_false q0
                have q2 : 0 ≤ q := by omega
                clear q0
                go_wp2_with fail
                refine (c_spec_ReadWhole s i _ hs hi).mono ?_
                rintro e w1 ⟨rfl, hb1⟩
                rw [← HQT.out.1, ← HQT.out.2]
                have Z4 := (hb1.block w.heap.size l5).trans HZ4.out
                obtain ⟨y0, y1, y2, y3, yf⟩ := row4 Z4
                have l7 := row_lt Z4
                have hB9 := HBW.out.trans (hb1.mono HBW.out.size)
                clear Z4
                go_wp2_with fail
                exact bodyPost_ret (v := .tuple #[.agg #[.int .i64 8, .string ⟨#[]⟩, .int .i64 t, .int .i64 i], .int .i64 q]) (by simp only [results, Tryz.results57]; go_simp) rfl ⟨by rw [HF.out]; rfl, hB9.trans (Aside.below (S := fun b => b = w.heap.size) (a := w1) (by repeat (first | (with_reducible exact Aside.refl _ _) | ((with_reducible refine aside_set ?_ ?_); (focus (simp; done))) | (with_reducible refine aside_alloc ?_))) hB9.size (fun i hi => by omega))⟩
  · have HQ := Lib.hid (show signB s i = (sign0, -1) by unfold signB; rw [if_neg (by omega)])
    have h0 : inB (i : Int) 0 ((s.size : Int) - 1) = false := decide_eq_false (by omega)
    go_enter Tryz.func57, Tryz.ntmps57
    go_wp2_with (first | (go_at_call 59; refine (c_spec_l01In _ _ _ _).mono ?_; rintro e w' ⟨rfl, rfl⟩))
    exact bodyPost_ret (v := .tuple #[.agg #[.int .i64 0, .string ⟨#[]⟩, .int .i64 0, .int .i64 0], .int .i64 (-1)]) (by simp only [results, Tryz.results57]; go_simp) rfl ⟨by rw [HQ.out]; rfl, bel⟩
end Go.Proofs.YtffelpdefjkeaaaGreatDoor
