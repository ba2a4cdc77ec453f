/- The program's comparisons of taints and tolerances once more, with the world that they leave: it has drawn, and blocks have been laid behind it. No conditions. -/
import Derived.Test.YtmhlnbihppojmaaTot
import Derived.Test.YtmhlnbihppojmaaOwnE
import Derived.Deep.RegionLaw
import Derived.Sort.Grow
import Derived.Deep.Draws
namespace Go.Proofs.Ytmhlnbihppojmaa
open Go.RowKit

def Gr (W w' : World) : Prop := ∃ (q : Nat) (os' : Array Obj), w' = Go.Sort.grow (W.drewN q) os'
theorem Gr.refl (W : World) : Gr W W := ⟨0, #[], by rw [Go.Sort.grow_empty]; rfl⟩
theorem Gr.drew {W w' : World} (h : Gr W w') : Gr W w'.drew := by
  obtain ⟨q, os, rfl⟩ := h
  exact ⟨q + 1, os, rfl⟩
theorem Gr.alloc {W w' : World} (h : Gr W w') (o : Obj) : Gr W (w'.alloc o) := by
  obtain ⟨q, os, rfl⟩ := h
  exact ⟨q, os ++ #[o], by rw [Go.Sort.alloc_eq_grow, Go.Sort.grow_grow]⟩
theorem Gr.size {W w' : World} (h : Gr W w') : W.heap.size ≤ w'.heap.size := by
  obtain ⟨q, os, rfl⟩ := h
  simp [Go.Sort.grow, World.drewN]
theorem Gr.trans {W w1 w' : World} (h : Gr W w1) (k : Gr w1 w') : Gr W w' := by
  obtain ⟨q, os, rfl⟩ := h
  obtain ⟨q', os', rfl⟩ := k
  exact ⟨q + q', os ++ os', by simp [Go.Sort.grow, World.drewN, Array.append_assoc, Nat.add_assoc]⟩
theorem keepG_drew (W : World) : Gr W W.drew ∧ (∀ xb xo, xb < W.heap.size → W.drew.cell? ⟨xb, xo, none⟩ = W.cell? ⟨xb, xo, none⟩) := ⟨(Gr.refl W).drew, fun _ _ _ => rfl⟩
theorem keepG_same {W a : World} (h : Gr W a ∧ (∀ xb xo, xb < W.heap.size → a.cell? ⟨xb, xo, none⟩ = W.cell? ⟨xb, xo, none⟩)) : Gr W a ∧ (∀ xb xo, xb < W.heap.size → a.cell? ⟨xb, xo, none⟩ = W.cell? ⟨xb, xo, none⟩) := h
theorem keepG_alloc {W a : World} (h : Gr W a ∧ (∀ xb xo, xb < W.heap.size → a.cell? ⟨xb, xo, none⟩ = W.cell? ⟨xb, xo, none⟩)) (o : Obj) : Gr W (a.alloc o) ∧ (∀ xb xo, xb < W.heap.size → (a.alloc o).cell? ⟨xb, xo, none⟩ = W.cell? ⟨xb, xo, none⟩) :=
  ⟨h.1.alloc o, fun xb xo hb => (World.cell?_of_block (a := ⟨xb, xo, none⟩) (Below.heap_alloc a o xb (Nat.lt_of_lt_of_le hb h.1.size))).trans (h.2 xb xo hb)⟩
theorem heldG_step {W a : World} {X : Prop} (k : Gr W a ∧ X) : Gr W a := k.1
theorem x_compareTaints (a b : Taint) (W : World) :
    Calls Try.prog 48 #[.agg #[.string a.key, .string a.value, .int .i64 a.effect], .agg #[.string b.key, .string b.value, .int .i64 b.effect]] W fun e w' => e = .returned (.int .i64 (cmpT a b)) ∧ Gr W w' := by
  go_enter Try.func48, Try.ntmps48
  go_wp2_with fail
  go_region_held3 (fun w' => Gr ((W.alloc (.cells #[.string a.key, .string a.value, .int .i64 a.effect] 45)).alloc (.cells #[.string b.key, .string b.value, .int .i64 b.effect] 45)) w' ∧ (∀ xb xo, xb < ((W.alloc (.cells #[.string a.key, .string a.value, .int .i64 a.effect] 45)).alloc (.cells #[.string b.key, .string b.value, .int .i64 b.effect] 45)).heap.size → w'.cell? ⟨xb, xo, none⟩ = ((W.alloc (.cells #[.string a.key, .string a.value, .int .i64 a.effect] 45)).alloc (.cells #[.string b.key, .string b.value, .int .i64 b.effect] 45)).cell? ⟨xb, xo, none⟩)) (first | exact keepG_drew _ | exact keepG_same (by assumption) | exact keepG_alloc (by assumption) _) (first | (go_at_call 100; refine (c_strings_Compare _ _ _).mono ?_; rintro e w9 ⟨rfl, rfl⟩) | (go_at_call 101; refine (c_cmp_Compare _ _ _).mono ?_; rintro e w9 ⟨rfl, rfl⟩) | (go_at_call 99; refine (c_cmp_Or3 (cmpS a.key b.key) (cmpS a.value b.value) (cmpI a.effect b.effect) _ _ 3 ?_).mono ?_; (focus ((try rw [heap_drew]); (try (refine heap_new ?_; simp)); done)); rintro e w9 ⟨rfl, rfl⟩))
  have hg := heldG_step (by assumption)
  go_wp2_with fail
  go_ret
  exact ⟨rfl, (((Gr.refl W).alloc _).alloc _).trans hg⟩
theorem x_compareTolerances (a b : Tolerance) (W : World) :
    Calls Try.prog 57 #[.agg #[.string a.key, .bool a.equal, .string a.value, .int .i64 a.effect], .agg #[.string b.key, .bool b.equal, .string b.value, .int .i64 b.effect]] W fun e w' => e = .returned (.int .i64 (cmpTol a b)) ∧ Gr W w' := by
  go_enter Try.func57, Try.ntmps57
  go_wp2_with fail
  go_region_held3 (fun w' => Gr ((W.alloc (.cells #[.string a.key, .bool a.equal, .string a.value, .int .i64 a.effect] 47)).alloc (.cells #[.string b.key, .bool b.equal, .string b.value, .int .i64 b.effect] 47)) w' ∧ (∀ xb xo, xb < ((W.alloc (.cells #[.string a.key, .bool a.equal, .string a.value, .int .i64 a.effect] 47)).alloc (.cells #[.string b.key, .bool b.equal, .string b.value, .int .i64 b.effect] 47)).heap.size → w'.cell? ⟨xb, xo, none⟩ = ((W.alloc (.cells #[.string a.key, .bool a.equal, .string a.value, .int .i64 a.effect] 47)).alloc (.cells #[.string b.key, .bool b.equal, .string b.value, .int .i64 b.effect] 47)).cell? ⟨xb, xo, none⟩)) (first | exact keepG_drew _ | exact keepG_same (by assumption) | exact keepG_alloc (by assumption) _) (first | (go_at_call 100; refine (c_strings_Compare _ _ _).mono ?_; rintro e w9 ⟨rfl, rfl⟩) | (go_at_call 101; refine (c_cmp_Compare _ _ _).mono ?_; rintro e w9 ⟨rfl, rfl⟩) | (go_at_call 103; refine (c_impl_compareFlags _ _ _).mono ?_; rintro e w9 ⟨rfl, rfl⟩) | (go_at_call 99; refine (c_cmp_Or4 (cmpS a.key b.key) (cmpF a.equal b.equal) (cmpS a.value b.value) (cmpI a.effect b.effect) _ _ 3 ?_).mono ?_; (focus ((try rw [heap_drew]); (try (refine heap_new ?_; simp)); done)); rintro e w9 ⟨rfl, rfl⟩))
  have hg := heldG_step (by assumption)
  go_wp2_with fail
  go_ret
  exact ⟨rfl, (((Gr.refl W).alloc _).alloc _).trans hg⟩
end Go.Proofs.Ytmhlnbihppojmaa
