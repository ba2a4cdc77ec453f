/- Contracts of slices.Clone of taints and of tolerances: a row of the call's own. No conditions. Written by wip/tools/genclone.py. -/
import Derived.Test.YtmhlnbihppojmaaRowE
import Derived.Lib.LazyBuf
namespace Go.Proofs.Ytmhlnbihppojmaa
open Go.RowKit Go.Lib

def encT (d : Taint) : List Value := [.string d.key, .string d.value, .int .i64 d.effect]
def encTol (d : Tolerance) : List Value := [.string d.key, .bool d.equal, .string d.value, .int .i64 d.effect]
instance : Inhabited Taint := ⟨⟨⟨#[]⟩, ⟨#[]⟩, 0⟩⟩
instance : Inhabited Tolerance := ⟨⟨⟨#[]⟩, false, ⟨#[]⟩, 0⟩⟩
theorem encT_len (d : Taint) : (encT d).length = 3 := rfl
theorem encTol_len (d : Tolerance) : (encTol d).length = 4 := rfl
theorem encT_one (d : Taint) : ∀ v ∈ encT d, v.oneCell' = true := by intro u hu; simp [encT] at hu; rcases hu with rfl | rfl | rfl <;> rfl
theorem encTol_one (d : Tolerance) : ∀ v ∈ encTol d, v.oneCell' = true := by intro u hu; simp [encTol] at hu; rcases hu with rfl | rfl | rfl | rfl <;> rfl
theorem encT_C (d : Taint) (es : List Value) (h : C_Taint d es) : es = encT d := h.1
theorem encTol_C (d : Tolerance) (es : List Value) (h : C_Tolerance d es) : es = encTol d := h.1

set_option maxRecDepth 10000 in
theorem c_Clone_Taint (l : List Taint) (v : Value) (w : World) (lo : Nat) (hs : Sl_Taint lo w.heap.size w l v) (hn : l.length ≤ 1048576) :
    Calls Try.prog 46 #[v] w fun e w' => ∃ A c, e = .returned (.slice A l.length c) ∧ RowE encT 3 45 w.heap.size w' l (.slice A l.length c) ∧ Below w.heap.size w w' := by
  obtain ⟨i0, hi, hz0, hz1, hz2⟩ := info_parts (show (Try.prog.info? 45).map (fun i => (i.zero, i.size, i.bytes)) = some (some (.agg #[.string ⟨#[]⟩, .string ⟨#[]⟩, .int .i64 0]), 3, 40) from by kernel_rfl)
  have heq := fun (a : Option Addr) (n c : Nat) (w : World) => run_eql_slice_nil (P := Try.prog) w 24 45 a n c Try.underlying24
  have hs' := hs
  obtain ⟨A, c, rfl, hlc, hc, hA⟩ := hs
  rcases A with _ | ad
  · have hl0 : l = [] := by
      by_cases hp : 0 < l.length
      · obtain ⟨b, o, h, -⟩ := hA hp
        cases h
      · exact List.eq_nil_of_length_eq_zero (by omega)
    subst hl0
    clear hA
    go_enter Try.func46, Try.ntmps46
    go_wp2_with fail
    go_ret
    exact ⟨_, _, rfl, RowE.nil, (by repeat (first | (with_reducible exact Below.refl _ _) | (with_reducible refine ext_alloc ?_) | ((with_reducible refine ext_setCell ?_ ?_); focus (simp; (try omega))) | (with_reducible refine below_drewN ?_ _) | (with_reducible refine Below.drew ?_) | (with_reducible (apply ext_step; assumption))))⟩
  · clear hA
    have hb0 : Below w.heap.size w (w.alloc (.cells #[] 45)) := (by repeat (first | (with_reducible exact Below.refl _ _) | (with_reducible refine ext_alloc ?_) | ((with_reducible refine ext_setCell ?_ ?_); focus (simp; (try omega))) | (with_reducible refine below_drewN ?_ _) | (with_reducible refine Below.drew ?_) | (with_reducible (apply ext_step; assumption))))
    have Hs := Lib.hid (Sl_Taint.now hs' hb0)
    have Hown : RowE encT 3 45 w.heap.size (w.alloc (.cells #[] 45)) [] (.slice (some ⟨w.heap.size, 0, none⟩) 0 0) := own_empty rfl (Nat.le_refl _)
    obtain ⟨v', w1, hr, hR, hgrow, hat⟩ := run_append_rows (P := Try.prog) (enc := encT) (C := C_Taint) (w.alloc (.cells #[] 45)) 24 24 w.heap.size 45 i0 (.agg #[.string ⟨#[]⟩, .string ⟨#[]⟩, .int .i64 0]) 3 40 Try.underlying24 hi hz0 hz1 hz2 rfl (by decide) encT_len encT_one encT_C _ 0 [] rfl Hown l (some ad) l.length c lo _ rfl Hs.out (by unfold maxLen; omega) (by omega) (by simp)
    rw [List.nil_append] at hR
    obtain ⟨A', c', rfl⟩ := hR.form
    have HR := Lib.hid hR
    have Bw := Below.grown hb0 hgrow (by simp) (fun k hk => by simp [Value.ownBlock] at hk; omega)
    clear hR hgrow hat Hown
    go_enter Try.func46, Try.ntmps46
    go_wp2_with (at_builtin; refine wpList_append_of rfl (.tmp 5) (.tmp 6) 24 rfl _ _ _ w1 rfl rfl hr ?_)
    go_ret
    exact ⟨A', c', rfl, HR.out, Bw⟩
set_option maxRecDepth 10000 in
theorem c_Clone_Tolerance (l : List Tolerance) (v : Value) (w : World) (lo : Nat) (hs : Sl_Tolerance lo w.heap.size w l v) (hn : l.length ≤ 1048576) :
    Calls Try.prog 55 #[v] w fun e w' => ∃ A c, e = .returned (.slice A l.length c) ∧ RowE encTol 4 47 w.heap.size w' l (.slice A l.length c) ∧ Below w.heap.size w w' := by
  obtain ⟨i0, hi, hz0, hz1, hz2⟩ := info_parts (show (Try.prog.info? 47).map (fun i => (i.zero, i.size, i.bytes)) = some (some (.agg #[.string ⟨#[]⟩, .bool false, .string ⟨#[]⟩, .int .i64 0]), 4, 48) from by kernel_rfl)
  have heq := fun (a : Option Addr) (n c : Nat) (w : World) => run_eql_slice_nil (P := Try.prog) w 33 47 a n c Try.underlying33
  have hs' := hs
  obtain ⟨A, c, rfl, hlc, hc, hA⟩ := hs
  rcases A with _ | ad
  · have hl0 : l = [] := by
      by_cases hp : 0 < l.length
      · obtain ⟨b, o, h, -⟩ := hA hp
        cases h
      · exact List.eq_nil_of_length_eq_zero (by omega)
    subst hl0
    clear hA
    go_enter Try.func55, Try.ntmps55
    go_wp2_with fail
    go_ret
    exact ⟨_, _, rfl, RowE.nil, (by repeat (first | (with_reducible exact Below.refl _ _) | (with_reducible refine ext_alloc ?_) | ((with_reducible refine ext_setCell ?_ ?_); focus (simp; (try omega))) | (with_reducible refine below_drewN ?_ _) | (with_reducible refine Below.drew ?_) | (with_reducible (apply ext_step; assumption))))⟩
  · clear hA
    have hb0 : Below w.heap.size w (w.alloc (.cells #[] 47)) := (by repeat (first | (with_reducible exact Below.refl _ _) | (with_reducible refine ext_alloc ?_) | ((with_reducible refine ext_setCell ?_ ?_); focus (simp; (try omega))) | (with_reducible refine below_drewN ?_ _) | (with_reducible refine Below.drew ?_) | (with_reducible (apply ext_step; assumption))))
    have Hs := Lib.hid (Sl_Tolerance.now hs' hb0)
    have Hown : RowE encTol 4 47 w.heap.size (w.alloc (.cells #[] 47)) [] (.slice (some ⟨w.heap.size, 0, none⟩) 0 0) := own_empty rfl (Nat.le_refl _)
    obtain ⟨v', w1, hr, hR, hgrow, hat⟩ := run_append_rows (P := Try.prog) (enc := encTol) (C := C_Tolerance) (w.alloc (.cells #[] 47)) 33 33 w.heap.size 47 i0 (.agg #[.string ⟨#[]⟩, .bool false, .string ⟨#[]⟩, .int .i64 0]) 4 48 Try.underlying33 hi hz0 hz1 hz2 rfl (by decide) encTol_len encTol_one encTol_C _ 0 [] rfl Hown l (some ad) l.length c lo _ rfl Hs.out (by unfold maxLen; omega) (by omega) (by simp)
    rw [List.nil_append] at hR
    obtain ⟨A', c', rfl⟩ := hR.form
    have HR := Lib.hid hR
    have Bw := Below.grown hb0 hgrow (by simp) (fun k hk => by simp [Value.ownBlock] at hk; omega)
    clear hR hgrow hat Hown
    go_enter Try.func55, Try.ntmps55
    go_wp2_with (at_builtin; refine wpList_append_of rfl (.tmp 5) (.tmp 6) 33 rfl _ _ _ w1 rfl rfl hr ?_)
    go_ret
    exact ⟨A', c', rfl, HR.out, Bw⟩
end Go.Proofs.Ytmhlnbihppojmaa
