/- Contract of the program's SortLabels: the same as the reference's. No conditions. Written by wip/tools/gensortli.py. -/
import Derived.Test.YtmhlnbihppojmaaSortLP
import Derived.Lib.LazyBuf
namespace Go.Proofs.Ytmhlnbihppojmaa
open Go.RowKit Go.Lib

set_option maxRecDepth 10000 in
theorem c_Clone_Label (l : List Label) (v : Value) (w : World) (lo : Nat) (hs : SlOf C_Label 2 lo w.heap.size w l v) (hn : l.length ≤ 1048576) :
    Calls Try.prog 132 #[v] w fun e w' => ∃ A c, e = .returned (.slice A l.length c) ∧ RowE encL 2 142 w.heap.size w' l (.slice A l.length c) ∧ Below w.heap.size w w' := by
  obtain ⟨i0, hi, hz0, hz1, hz2⟩ := info_parts (show (Try.prog.info? 142).map (fun i => (i.zero, i.size, i.bytes)) = some (some (.agg #[.string ⟨#[]⟩, .string ⟨#[]⟩]), 2, 32) from by kernel_rfl)
  have heq := fun (a : Option Addr) (n c : Nat) (w : World) => run_eql_slice_nil (P := Try.prog) w 63 142 a n c Try.underlying63
  have hs' := hs
  obtain ⟨A, c, rfl, hlc, hc, hA⟩ := hs
  rcases A with _ | ad
  · have hl0 : l = [] := by
      by_cases hp : 0 < l.length
      · obtain ⟨b, o, h, -⟩ := hA hp
        cases h
      · exact List.eq_nil_of_length_eq_zero (by omega)
    subst hl0
    clear hA
    go_enter Try.func132, Try.ntmps132
    go_wp2_with fail
    go_ret
    exact ⟨_, _, rfl, RowE.nil, (by repeat (first | (with_reducible exact Below.refl _ _) | (with_reducible refine ext_alloc ?_) | ((with_reducible refine ext_setCell ?_ ?_); focus (simp; (try omega))) | (with_reducible refine below_drewN ?_ _) | (with_reducible refine Below.drew ?_) | (with_reducible (apply ext_step; assumption))))⟩
  · clear hA
    have hb0 : Below w.heap.size w (w.alloc (.cells #[] 142)) := (by repeat (first | (with_reducible exact Below.refl _ _) | (with_reducible refine ext_alloc ?_) | ((with_reducible refine ext_setCell ?_ ?_); focus (simp; (try omega))) | (with_reducible refine below_drewN ?_ _) | (with_reducible refine Below.drew ?_) | (with_reducible (apply ext_step; assumption))))
    have Hs := Lib.hid (SlOf.now hs' hb0)
    have Hown : RowE encL 2 142 w.heap.size (w.alloc (.cells #[] 142)) [] (.slice (some ⟨w.heap.size, 0, none⟩) 0 0) := own_empty rfl (Nat.le_refl _)
    obtain ⟨v', w1, hr, hR, hgrow, hat⟩ := run_append_rows (P := Try.prog) (enc := encL) (C := C_Label) (w.alloc (.cells #[] 142)) 63 63 w.heap.size 142 i0 (.agg #[.string ⟨#[]⟩, .string ⟨#[]⟩]) 2 32 Try.underlying63 hi hz0 hz1 hz2 rfl (by decide) encL_len encL_one encL_C _ 0 [] rfl Hown l (some ad) l.length c lo _ rfl Hs.out (by unfold maxLen; omega) (by omega) (by simp)
    rw [List.nil_append] at hR
    obtain ⟨A', c', rfl⟩ := hR.form
    have HR := Lib.hid hR
    have Bw := Below.grown hb0 hgrow (by simp) (fun k hk => by simp [Value.ownBlock] at hk; omega)
    clear hR hgrow hat Hown
    go_enter Try.func132, Try.ntmps132
    go_wp2_with (at_builtin; refine wpList_append_of rfl (.tmp 5) (.tmp 6) 63 rfl _ _ _ w1 rfl rfl hr ?_)
    go_ret
    exact ⟨A', c', rfl, HR.out, Bw⟩
set_option maxHeartbeats 1000000 in
theorem c_SortStable (l : List Label) (v : Value) (base : Nat) (w : World) (h : RowE encL 2 142 base w l v) (hn : l.length ≤ 1048576) :
    Calls Try.prog 133 #[v, .func (.func 134) #[] #[]] w fun e w' => ∃ l' : List Label, e = .returned (.tuple #[]) ∧ OrdK l.length l' l ∧ RowE encL 2 142 base w' l' v ∧ Aside (fun q => v.ownBlock = some q) w w' := by
  by_cases hp : 0 < l.length
  · obtain ⟨g, cap, cur, rfl, -, -, -, -, -, -⟩ := h.row encL_len hp
    go_enter Try.func133, Try.ntmps133
    go_wp2_with fail
    refine (c_stableCmp l l.length g cap base _ rfl h hn hp).mono ?_
    rintro e w1 ⟨l', rfl, hO, hR, hA⟩
    go_wp2_with fail
    go_end0
    exact ⟨l', rfl, hO, hR, hA.mono (fun q hq => by subst hq; rfl)⟩
  · obtain rfl : l = [] := List.eq_nil_of_length_eq_zero (by omega)
    obtain ⟨A, c, rfl⟩ := h.form
    have hcon := fun W => AnyF.insertionSortCmpFunc_none insLabel A c (.func (.func 134) #[] #[]) W
    have hcon2 : ∀ W, Calls Try.prog 206 #[.slice A 0 c, .int .i64 0, .int .i64 0, .func (.func 134) #[] #[]] W fun e w' => e = .returned (.tuple #[]) ∧ w' = W := hcon
    clear hcon
    have hst : Calls Try.prog 182 #[.slice A 0 c, .int .i64 0, .func (.func 134) #[] #[]] w fun e w' => e = .returned (.tuple #[]) ∧ w' = w := by
      go_enter Try.func182, Try.ntmps182
      go_wp2_with fail
      go_loopw [7, 8] (fun s7 s8 wr => s7 = .int .i64 0 ∧ s8 = .int .i64 20 ∧ wr = w) (fun _ _ _ => 0)
      case atStart => exact ⟨rfl, rfl, rfl⟩
      case round =>
        obtain ⟨rfl, rfl, rfl⟩ := hrel
        go_wp2_with fail
        refine (hcon2 _).mono ?_
        rintro e w1 ⟨rfl, rfl⟩
        go_wp2_with fail
        go_loopw [6] (fun s6 wr2 => s6 = .int .i64 20 ∧ wr2 = w1) (fun _ _ => 0)
        case atStart => exact ⟨rfl, rfl⟩
        case round =>
          obtain ⟨rfl, rfl⟩ := hrel
          go_wp2_with fail
          go_end0
          exact ⟨rfl, rfl⟩
    go_enter Try.func133, Try.ntmps133
    go_wp2_with fail
    refine hst.mono ?_
    rintro e w1 ⟨rfl, rfl⟩
    go_wp2_with fail
    go_end0
    exact ⟨[], rfl, ⟨SubL.refl _, fun _ => ⟨List.Perm.refl _, List.Pairwise.nil⟩⟩, h, Aside.refl _ _⟩
set_option maxHeartbeats 2000000 in
theorem c_impl_SortLabels (l : List Label) (v : Value) (w : World) (lo : Nat) (hs : Sl_Label lo w.heap.size w l v) (hn : l.length ≤ 1048576) :
    Calls Try.prog 91 #[v] w fun e w' => ∃ (A : Option Addr) (c : Nat), e = .returned (.tuple #[.slice A (sortLB l).1.length c, .bool (sortLB l).2]) ∧ RowE encL 2 142 w.heap.size w' (sortLB l).1 (.slice A (sortLB l).1.length c) ∧ Below w.heap.size w w' := by
  have HCd := Lib.hid (Label_of_sl hs)
  have HS := Lib.hid hs
  obtain ⟨A, c, rfl⟩ := hs.form
  clear hs
  go_enter Try.func91, Try.ntmps91
  go_wp2_with fail
  refine (c_Clone_Label l _ _ _ HS.out hn).mono ?_
  rintro e w1 ⟨A1, c1, rfl, hR, hb1⟩
  have HR := Lib.hid hR
  clear hR
  go_wp2_with fail
  refine (c_SortStable l _ w.heap.size _ HR.out hn).mono ?_
  rintro e w2 ⟨l', rfl, hO, hR2, hA2⟩
  have hb2 : Below w.heap.size w w2 := hb1.trans (hA2.below hb1.size (fun b hb => (World.ownsRow.lt HR.out b hb).1))
  have HE := Lib.hid (sortL_same hO)
  have hll : l'.length = l.length := hO.1.1
  have HL := Lib.hid hll
  have HSl := Lib.hid (RowE.sl encL_len hR2 (C := C_Label) (fun d hd => HCd.out d (hO.1.2 d hd)))
  have HR2 := Lib.hid hR2
  clear hO hR2 hA2 hll
  go_wp2_with fail
  refine (c_impl_LabelsOk l' _ _ _ (by have := HSl.out; exact this)).mono ?_
  rintro e w3 ⟨rfl, hb3⟩
  have B3 := hb2.trans (hb3.mono hb2.size)
  rcases ht : labelsB l' with _ | _
  · have Hf := Lib.hid (show sortLB l = (l, false) by rw [← HE.out, ht]; rfl)
    go_wp2_with fail
    refine (c_Clone_Label l _ _ _ (Sl_Label.now HS.out B3) hn).mono ?_
    rintro e w5 ⟨A5, c5, rfl, hR5, hb5⟩
    have HR5 := Lib.hid (hR5.less B3.size)
    have B5 := B3.trans (hb5.mono B3.size)
    clear hR5
    go_wp2_with fail
    go_ret2
    exact ⟨A5, c5, by rw [Hf.out]; rfl, by rw [Hf.out]; exact HR5.out, B5⟩
  · have Hf := Lib.hid (show sortLB l = (l', true) by rw [← HE.out, ht]; rfl)
    have HR5 := Lib.hid (HR2.out.below hb3)
    go_wp2_with fail
    go_ret2
    exact ⟨A1, c1, by rw [Hf.out, HL.out]; rfl, by rw [Hf.out]; show RowE _ _ _ _ _ _ (.slice A1 l'.length c1); rw [HL.out]; exact HR5.out, B3⟩
end Go.Proofs.Ytmhlnbihppojmaa
