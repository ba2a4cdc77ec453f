/- Written by wip/tools/pack.py: the texts that FnExactPodNormal needs, without what it does not need. No conditions. -/
import Derived.Test.YtmhlnbihppojmaaGreatKFnExactPodNormal9
import Derived.Shelf.SlSortCmp.NoneTotal
import Derived.Lib.LazyBuf
import Derived.Test.YtmhlnbihppojmaaGreatKFnExactPodNormal5
import Derived.Test.YtmhlnbihppojmaaGreatKFnExactPodNormal4
import Derived.Test.YtmhlnbihppojmaaGreatKFnExactPodNormal1
import Derived.Test.YtmhlnbihppojmaaGreatKFnExactPodNormal8
namespace Go.Proofs.YtmhlnbihppojmaaGreat
open Go.RowKit
def OrdK (N : Nat) (l' l : List Label) : Prop := SubL l' l ∧ (N < 20 → l'.Perm l ∧ l'.Pairwise (fun x y => lessS y.key x.key = false))
set_option maxHeartbeats 4000000 in
set_option maxRecDepth 10000 in
theorem c_stableCmp (l : List Label) (N g cap base : Nat) (w : World) (hN : l.length = N) (h : RowE encL 2 98 base w l (.slice (some ⟨g, 0, none⟩) N cap)) (hl : N ≤ 1048576) (hp : 0 < N) :
    Calls Tryz.prog 188 #[.slice (some ⟨g, 0, none⟩) N cap, .int .i64 N, .func (.func 123) #[] #[]] w fun e w' => ∃ l' : List Label, e = .returned (.tuple #[]) ∧ OrdK N l' l ∧ RowE encL 2 98 base w' l' (.slice (some ⟨g, 0, none⟩) N cap) ∧ Aside (fun q => q = g) w w' := by
  have H := Lib.hid h
  have HN := Lib.hid hN
  clear h hN
  go_enter Tryz.func188, Tryz.ntmps188
  go_wp2_with fail
  go_loopw [7, 8] (fun s7 s8 wr => ∃ (a : Nat) (l1 : List Label), s7 = .int .i64 a ∧ s8 = .int .i64 ((a : Int) + 20) ∧ a ≤ N ∧ SubL l1 l ∧ (N < 20 → a = 0 ∧ l1 = l) ∧ RowE encL 2 98 base wr l1 (.slice (some ⟨g, 0, none⟩) N cap) ∧ Aside (fun q => q = g) w wr) (fun s7 _ _ => N - (intOf s7).toNat)
  case atStart => exact ⟨0, l, rfl, by go_num, Nat.zero_le _, SubL.refl _, fun _ => ⟨rfl, rfl⟩, H.out, Aside.refl _ _⟩
  case round =>
    obtain ⟨a, l1, rfl, rfl, haN, hS, hq, hR, hA⟩ := hrel
    have HS := Lib.hid hS
    have HQ := Lib.hid hq
    have HR := Lib.hid hR
    have HA := Lib.hid hA
    have HL := Lib.hid (show l1.length = N by rw [hS.1]; exact HN.out)
    clear hS hq hR hA
    by_cases hb : (a : Int) + 20 ≤ N
    · go_wp2_with fail
      have hcon := c_insLabel l1 N g cap base a (a + 20) wr HL.out HR.out hl hp (by omega) (by omega)
      rw [show ((a + 20 : Nat) : Int) = (a : Int) + 20 by omega] at hcon
      refine hcon.mono ?_
      rintro e w1 ⟨l2, rfl, hS2, -, hR2, hA2⟩
      go_wp2_with fail
      go_roundw
      case rel => exact ⟨a + 20, l2, by go_num, by go_num, by omega, hS2.trans HS.out, fun h20 => by omega, hR2, HA.out.trans hA2⟩
      case measure => simp [intOf]; omega
    · go_wp2_with fail
      refine (c_insLabel l1 N g cap base a N wr HL.out HR.out hl hp haN (Nat.le_refl _)).mono ?_
      rintro e w1 ⟨l2, rfl, hS2, hO2, hR2, hA2⟩
      have HO := Lib.hid (show OrdK N l2 l from ⟨hS2.trans HS.out, fun h20 => by
        obtain ⟨h1, h2⟩ := HQ.out h20
        rw [← h2]
        exact hO2 h1 rfl⟩)
      have HR2 := Lib.hid hR2
      have HA2 := Lib.hid (HA.out.trans hA2)
      clear hS2 hO2 hR2 hA2 HS HQ HR HA HL
      go_wp2_with fail
      go_loopw [6] (fun s6 wr => ∃ (bs : Nat) (l1 : List Label), s6 = .int .i64 bs ∧ 20 ≤ bs ∧ bs ≤ 2097152 ∧ OrdK N l1 l ∧ RowE encL 2 98 base wr l1 (.slice (some ⟨g, 0, none⟩) N cap) ∧ Aside (fun q => q = g) w wr) (fun s6 _ => N - (intOf s6).toNat)
      case atStart => exact ⟨20, l2, rfl, Nat.le_refl _, by omega, HO.out, HR2.out, HA2.out⟩
      case round =>
        clear HO HR2 HA2
        obtain ⟨bs, l3, rfl, hb1, hb2, hO, hR, hA⟩ := hrel
        have HO := Lib.hid hO
        have HR := Lib.hid hR
        have HA := Lib.hid hA
        clear hO hR hA
        by_cases hlt : (bs : Int) < N
        · go_wp2_with fail
          go_loopw [7, 8] (fun s7 s8 wr => ∃ (a : Nat) (l1 : List Label), s7 = .int .i64 a ∧ s8 = .int .i64 ((a : Int) + 2 * bs) ∧ a ≤ N ∧ SubL l1 l ∧ RowE encL 2 98 base wr l1 (.slice (some ⟨g, 0, none⟩) N cap) ∧ Aside (fun q => q = g) w wr) (fun s7 _ _ => N - (intOf s7).toNat)
          case atStart => exact ⟨0, l3, rfl, by go_num, Nat.zero_le _, HO.out.1, HR.out, HA.out⟩
          case round =>
            clear HO HR HA
            obtain ⟨a, l4, rfl, rfl, haN, hS, hR, hA⟩ := hrel
            have HS := Lib.hid hS
            have HR := Lib.hid hR
            have HA := Lib.hid hA
            have HL := Lib.hid (show l4.length = N by rw [hS.1]; exact HN.out)
            clear hS hR hA
            by_cases hb : (a : Int) + 2 * bs ≤ N
            · go_wp2_with fail
              have hcon := c_symMerge (a + 2 * bs - a) l4 N g cap base a (a + bs) (a + 2 * bs) wr (Nat.le_refl _) HL.out HR.out hl (by omega) (by omega) (by omega)
              rw [show ((a + bs : Nat) : Int) = (a : Int) + bs by omega, show ((a + 2 * bs : Nat) : Int) = (a : Int) + 2 * bs by omega] at hcon
              refine hcon.mono ?_
              rintro e w1 ⟨l5, rfl, hS2, hR2, hA2⟩
              go_wp2_with fail
              go_roundw
              case rel => exact ⟨a + 2 * bs, l5, by go_num, by go_num, by omega, hS2.trans HS.out, hR2, HA.out.trans hA2⟩
              case measure => simp [intOf]; omega
            · by_cases hm : (a : Int) + bs < N
              · go_wp2_with fail
                have hcon := c_symMerge (N - a) l4 N g cap base a (a + bs) N wr (Nat.le_refl _) HL.out HR.out hl (by omega) (by omega) (Nat.le_refl _)
                rw [show ((a + bs : Nat) : Int) = (a : Int) + bs by omega] at hcon
                refine hcon.mono ?_
                rintro e w1 ⟨l5, rfl, hS2, hR2, hA2⟩
                go_wp2_with fail
                go_roundw
                case rel => exact ⟨bs * 2, l5, by go_num, by omega, by omega, ⟨hS2.trans HS.out, fun h20 => by omega⟩, hR2, HA.out.trans hA2⟩
                case measure => simp [intOf]; omega
              · go_wp2_with fail
                go_roundw
                case rel => exact ⟨bs * 2, l4, by go_num, by omega, by omega, ⟨HS.out, fun h20 => by omega⟩, HR.out, HA.out⟩
                case measure => simp [intOf]; omega
        · go_wp2_with fail
          go_end0
          exact ⟨rfl, l3, HO.out, HR.out, HA.out⟩
end Go.Proofs.YtmhlnbihppojmaaGreat
namespace Go.Proofs.YtmhlnbihppojmaaGreat
open Go.RowKit
def WkL (l : List Label) : Prop := l.Pairwise (fun x y => lessS y.key x.key = false)
def StL (l : List Label) : Prop := l.Pairwise (fun x y => lessS x.key y.key = true)
theorem lessS_ntrans {a b c : ByteArray} (h1 : lessS a b = false) (h2 : lessS b c = false) : lessS a c = false := (swo_of tot_S).ntrans a b c h1 h2
theorem strict_of_chain {l : List Label} (h : labelsB l = true) : StL l := by
  rw [labelsB_def, Bool.and_eq_true] at h
  have hc := h.2
  unfold chainB at hc
  rw [List.all_eq_true] at hc
  have step : ∀ k x y, l[k]? = some x → l[k + 1]? = some y → lessS x.key y.key = true := fun k x y hx hy => by
    have hk : k + 1 < l.length := (List.getElem?_eq_some_iff.1 hy).1
    have := hc (k + 1) (List.mem_range.2 hk)
    unfold stepB at this
    simp only [hy, hx] at this
    simp at this
    exact this.2
  have far : ∀ n k x y, l[k]? = some x → l[k + 1 + n]? = some y → lessS x.key y.key = true := by
    intro n
    induction n with
    | zero => intro k x y hx hy; exact step k x y hx hy
    | succ n ih =>
      intro k x y hx hy
      obtain ⟨z, hz⟩ := exists_at (l := l) (k := k + 1 + n) (by have := (List.getElem?_eq_some_iff.1 hy).1; omega)
      exact tot_S.trans _ _ _ (ih k x z hx hz) (step (k + 1 + n) z y hz hy)
  unfold StL
  rw [List.pairwise_iff_getElem]
  intro i j hi hj hij
  have := far (j - i - 1) i l[i] l[j] (List.getElem?_eq_getElem hi) (by rw [show i + 1 + (j - i - 1) = j by omega]; exact List.getElem?_eq_getElem hj)
  exact this
theorem weak_of_strict {l : List Label} (h : StL l) : WkL l := h.imp (fun hab => tot_S.asymm hab)
theorem insL_perm (l : List Label) (x : Label) : (insL l x).Perm (x :: l) := by
  unfold insL
  rw [List.append_assoc]
  refine List.perm_middle.trans ?_
  show (x :: (l.take (placeB leL l x) ++ l.drop (placeB leL l x))).Perm (x :: l)
  rw [List.take_append_drop]
theorem insL_weak {l : List Label} (h : WkL l) (x : Label) : WkL (insL l x) := by
  unfold insL WkL
  have hle := placeB_le leL l x
  rw [List.append_assoc, List.pairwise_append]
  refine ⟨List.Pairwise.sublist (List.take_sublist _ _) h, ?_, ?_⟩
  · rw [List.singleton_append, List.pairwise_cons]
    refine ⟨fun y hy => ?_, List.Pairwise.sublist (List.drop_sublist _ _) h⟩
    obtain ⟨i, hi⟩ := List.getElem?_of_mem hy
    rw [List.getElem?_drop] at hi
    obtain ⟨z, hz⟩ := exists_at (l := l) (k := placeB leL l x) (by have := (List.getElem?_eq_some_iff.1 hi).1; omega)
    have hz2 := placeB_at leL x l z hz
    unfold leL at hz2
    have hxz : lessS x.key z.key = true := by simpa using hz2
    by_cases e : i = 0
    · subst e
      rw [Nat.add_zero, hz] at hi
      obtain rfl := Option.some.inj hi
      exact tot_S.asymm hxz
    · have hzy : lessS y.key z.key = false := by
        unfold WkL at h
        rw [List.pairwise_iff_getElem] at h
        obtain ⟨h1, rfl⟩ := List.getElem?_eq_some_iff.1 hz
        obtain ⟨h2, rfl⟩ := List.getElem?_eq_some_iff.1 hi
        exact h _ _ h1 h2 (by omega)
      exact lessS_ntrans hzy (tot_S.asymm hxz)
  · intro y hy z hz
    obtain ⟨i, hi⟩ := List.getElem?_of_mem hy
    rw [List.getElem?_take] at hi
    split at hi
    · rename_i hlt
      have h1 := placeB_lt leL x l i y hlt hi
      unfold leL at h1
      have hxy : lessS x.key y.key = false := by simpa using h1
      rw [List.singleton_append] at hz
      rcases List.mem_cons.1 hz with rfl | hz
      · exact hxy
      · obtain ⟨j, hj⟩ := List.getElem?_of_mem hz
        rw [List.getElem?_drop] at hj
        unfold WkL at h
        rw [List.pairwise_iff_getElem] at h
        obtain ⟨g1, rfl⟩ := List.getElem?_eq_some_iff.1 hi
        obtain ⟨g2, rfl⟩ := List.getElem?_eq_some_iff.1 hj
        exact h _ _ g1 g2 (by omega)
    · cases hi
theorem stL_order (l : List Label) : WkL (stL l) ∧ (stL l).Perm l := by
  have H : ∀ (l acc : List Label), WkL acc → WkL (l.foldl insL acc) ∧ (l.foldl insL acc).Perm (acc ++ l) := by
    intro l
    induction l with
    | nil => intro acc h; exact ⟨h, by rw [List.append_nil]; exact List.Perm.refl _⟩
    | cons x l ih =>
      intro acc h
      obtain ⟨h1, h2⟩ := ih (insL acc x) (insL_weak h x)
      refine ⟨h1, h2.trans ?_⟩
      exact ((insL_perm acc x).append_right l).trans List.perm_middle.symm
  have := H l [] List.Pairwise.nil
  exact ⟨this.1, by simpa [stL] using this.2⟩
theorem order_one {A B : List Label} (hA : WkL A) (hB : StL B) (hp : A.Perm B) : A = B := by
  refine List.Perm.eq_of_pairwise (le := fun x y => lessS y.key x.key = false) (fun a b ha hb h1 h2 => ?_) (show A.Pairwise (fun x y => lessS y.key x.key = false) from hA) (show B.Pairwise (fun x y => lessS y.key x.key = false) from weak_of_strict hB) hp
  have hk : a.key = b.key := tot_S.tri _ _ h2 h1
  have ha2 := hp.mem_iff.1 ha
  obtain ⟨i, hi⟩ := List.getElem?_of_mem ha2
  obtain ⟨j, hj⟩ := List.getElem?_of_mem hb
  unfold StL at hB
  rw [List.pairwise_iff_getElem] at hB
  obtain ⟨hi1, hi2⟩ := List.getElem?_eq_some_iff.1 hi
  obtain ⟨hj1, hj2⟩ := List.getElem?_eq_some_iff.1 hj
  rcases Nat.lt_trichotomy i j with hlt | heq | hgt
  · have := hB i j hi1 hj1 hlt
    rw [hi2, hj2, hk, tot_S.irrefl] at this
    cases this
  · subst heq
    rw [hi] at hj
    exact Option.some.inj hj
  · have := hB j i hj1 hi1 hgt
    rw [hi2, hj2, hk, tot_S.irrefl] at this
    cases this
/-- Whatever order the library makes: the answer is the reference's. -/
theorem sortL_same {l l' : List Label} (h : OrdK l.length l' l) : (if labelsB l' then (l', true) else (l, false)) = sortLB l := by
  obtain ⟨⟨h1, h2⟩, h3⟩ := h
  unfold sortLB
  by_cases h6 : 6 < l.length
  · rw [if_pos h6, labelsB_long (by rw [h1]; omega)]
    rfl
  · rw [if_neg h6]
    obtain ⟨hp, hw⟩ := h3 (by omega)
    obtain ⟨sw, sp⟩ := stL_order l
    rcases hb : labelsB l' with _ | _
    · rcases hs : labelsB (stL l) with _ | _
      · rfl
      · have := order_one hw (strict_of_chain hs) (hp.trans sp.symm)
        rw [this, hs] at hb
        cases hb
    · have := order_one sw (strict_of_chain hb) (sp.trans hp.symm)
      rw [this, hb]
end Go.Proofs.YtmhlnbihppojmaaGreat
namespace Go.Proofs.YtmhlnbihppojmaaGreat
open Go.RowKit Go.Lib
set_option maxRecDepth 10000 in
theorem c_Clone_Label (l : List Label) (v : Value) (w : World) (lo : Nat) (hs : SlOf C_Label 2 lo w.heap.size w l v) (hn : l.length ≤ 1048576) :
    Calls Tryz.prog 121 #[v] w fun e w' => ∃ A c, e = .returned (.slice A l.length c) ∧ RowE encL 2 98 w.heap.size w' l (.slice A l.length c) ∧ Below w.heap.size w w' := by
  obtain ⟨i0, hi, hz0, hz1, hz2⟩ := info_parts (show (Tryz.prog.info? 98).map (fun i => (i.zero, i.size, i.bytes)) = some (some (.agg #[.string ⟨#[]⟩, .string ⟨#[]⟩]), 2, 32) from by kernel_rfl)
  have heq := fun (a : Option Addr) (n c : Nat) (w : World) => run_eql_slice_nil (P := Tryz.prog) w 41 98 a n c Tryz.underlying41
  have hs' := hs
  obtain ⟨A, c, rfl, hlc, hc, hA⟩ := hs
  rcases A with _ | ad
  · have hl0 : l = [] := by
      by_cases hp : 0 < l.length
      · obtain ⟨b, o, h, -⟩ := hA hp
        cases h
      · exact List.eq_nil_of_length_eq_zero (by omega)
    subst hl0
    clear hA
    go_enter Tryz.func121, Tryz.ntmps121
    go_wp2_with fail
    go_ret
    exact ⟨_, _, rfl, RowE.nil, bel⟩
  · clear hA
    have hb0 : Below w.heap.size w (w.alloc (.cells #[] 98)) := bel
    have Hs := Lib.hid (SlOf.now hs' hb0)
    have Hown : RowE encL 2 98 w.heap.size (w.alloc (.cells #[] 98)) [] (.slice (some ⟨w.heap.size, 0, none⟩) 0 0) := own_empty rfl (Nat.le_refl _)
    obtain ⟨v', w1, hr, hR, hgrow, hat⟩ := run_append_rows (P := Tryz.prog) (enc := encL) (C := C_Label) (w.alloc (.cells #[] 98)) 41 41 w.heap.size 98 i0 (.agg #[.string ⟨#[]⟩, .string ⟨#[]⟩]) 2 32 Tryz.underlying41 hi hz0 hz1 hz2 rfl (by decide) encL_len encL_one encL_C _ 0 [] rfl Hown l (some ad) l.length c lo _ rfl Hs.out (by unfold maxLen; omega) (by omega) (by simp)
    rw [List.nil_append] at hR
    obtain ⟨A', c', rfl⟩ := hR.form
    have HR := Lib.hid hR
    have Bw := Below.grown hb0 hgrow (by simp) (fun k hk => by simp [Value.ownBlock] at hk; omega)
    clear hR hgrow hat Hown
    go_enter Tryz.func121, Tryz.ntmps121
    go_wp2_with (at_builtin; refine wpList_append_of rfl (.tmp 5) (.tmp 6) 41 rfl _ _ _ w1 rfl rfl hr ?_)
    go_ret
    exact ⟨A', c', rfl, HR.out, Bw⟩
set_option maxHeartbeats 1000000 in
theorem c_SortStable (l : List Label) (v : Value) (base : Nat) (w : World) (h : RowE encL 2 98 base w l v) (hn : l.length ≤ 1048576) :
    Calls Tryz.prog 122 #[v, .func (.func 123) #[] #[]] w fun e w' => ∃ l' : List Label, e = .returned (.tuple #[]) ∧ OrdK l.length l' l ∧ RowE encL 2 98 base w' l' v ∧ Aside (fun q => v.ownBlock = some q) w w' := by
  by_cases hp : 0 < l.length
  · obtain ⟨g, cap, cur, rfl, -, -, -, -, -, -⟩ := h.row encL_len hp
    go_enter Tryz.func122, Tryz.ntmps122
    go_wp2_with fail
    refine (c_stableCmp l l.length g cap base _ rfl h hn hp).mono ?_
    rintro e w1 ⟨l', rfl, hO, hR, hA⟩
    go_wp2_with fail
    go_end0
    exact ⟨l', rfl, hO, hR, hA.mono (fun q hq => by subst hq; rfl)⟩
  · obtain rfl : l = [] := List.eq_nil_of_length_eq_zero (by omega)
    obtain ⟨A, c, rfl⟩ := h.form
    have hcon := fun W => AnyF.insertionSortCmpFunc_none insLabel A c (.func (.func 123) #[] #[]) W
    have hcon2 : ∀ W, Calls Tryz.prog 222 #[.slice A 0 c, .int .i64 0, .int .i64 0, .func (.func 123) #[] #[]] W fun e w' => e = .returned (.tuple #[]) ∧ w' = W := hcon
    clear hcon
    have hst : Calls Tryz.prog 188 #[.slice A 0 c, .int .i64 0, .func (.func 123) #[] #[]] w fun e w' => e = .returned (.tuple #[]) ∧ w' = w := by
      go_enter Tryz.func188, Tryz.ntmps188
      go_wp2_with fail
      go_loopw [7, 8] (fun s7 s8 wr => s7 = .int .i64 0 ∧ s8 = .int .i64 20 ∧ wr = w) (fun _ _ _ => 0)
      case atStart => exact ⟨rfl, rfl, rfl⟩
      case round =>
        obtain ⟨rfl, rfl, rfl⟩ := hrel
        go_wp2_with fail
        refine (hcon2 _).mono ?_
        rintro e w1 ⟨rfl, rfl⟩
        go_wp2_with fail
        go_loopw [6] (fun s6 wr2 => s6 = .int .i64 20 ∧ wr2 = w1) (fun _ _ => 0)
        case atStart => exact ⟨rfl, rfl⟩
        case round =>
          obtain ⟨rfl, rfl⟩ := hrel
          go_wp2_with fail
          go_end0
          exact ⟨rfl, rfl⟩
    go_enter Tryz.func122, Tryz.ntmps122
    go_wp2_with fail
    refine hst.mono ?_
    rintro e w1 ⟨rfl, rfl⟩
    go_wp2_with fail
    go_end0
    exact ⟨[], rfl, ⟨SubL.refl _, fun _ => ⟨List.Perm.refl _, List.Pairwise.nil⟩⟩, h, Aside.refl _ _⟩
set_option maxHeartbeats 2000000 in
theorem c_impl_SortLabels (l : List Label) (v : Value) (w : World) (lo : Nat) (hs : Sl_Label lo w.heap.size w l v) (hn : l.length ≤ 1048576) :
    Calls Tryz.prog 64 #[v] w fun e w' => ∃ (A : Option Addr) (c : Nat), e = .returned (.tuple #[.slice A (sortLB l).1.length c, .bool (sortLB l).2]) ∧ RowE encL 2 98 w.heap.size w' (sortLB l).1 (.slice A (sortLB l).1.length c) ∧ Below w.heap.size w w' := by
  have HCd := Lib.hid (Label_of_sl hs)
  have HS := Lib.hid hs
  obtain ⟨A, c, rfl⟩ := hs.form
  clear hs
  go_enter Tryz.func64, Tryz.ntmps64
  go_wp2_with fail
  refine (c_Clone_Label l _ _ _ HS.out hn).mono ?_
  rintro e w1 ⟨A1, c1, rfl, hR, hb1⟩
  have HR := Lib.hid hR
  clear hR
  go_wp2_with fail
  refine (c_SortStable l _ w.heap.size _ HR.out hn).mono ?_
  rintro e w2 ⟨l', rfl, hO, hR2, hA2⟩
  have hb2 : Below w.heap.size w w2 := hb1.trans (hA2.below hb1.size (fun b hb => (World.ownsRow.lt HR.out b hb).1))
  have HE := Lib.hid (sortL_same hO)
  have hll : l'.length = l.length := hO.1.1
  have HL := Lib.hid hll
  have HSl := Lib.hid (RowE.sl encL_len hR2 (C := C_Label) (fun d hd => HCd.out d (hO.1.2 d hd)))
  have HR2 := Lib.hid hR2
  clear hO hR2 hA2 hll
  go_wp2_with fail
  refine (c_impl_LabelsOk l' _ _ _ (by have := HSl.out; exact this)).mono ?_
  rintro e w3 ⟨rfl, hb3⟩
  have B3 := hb2.trans (hb3.mono hb2.size)
  rcases ht : labelsB l' with _ | _
  · have Hf := Lib.hid (show sortLB l = (l, false) by rw [← HE.out, ht]; rfl)
    go_wp2_with fail
    refine (c_Clone_Label l _ _ _ (Sl_Label.now HS.out B3) hn).mono ?_
    rintro e w5 ⟨A5, c5, rfl, hR5, hb5⟩
    have HR5 := Lib.hid (hR5.less B3.size)
    have B5 := B3.trans (hb5.mono B3.size)
    clear hR5
    go_wp2_with fail
    go_ret2
    exact ⟨A5, c5, by rw [Hf.out]; rfl, by rw [Hf.out]; exact HR5.out, B5⟩
  · have Hf := Lib.hid (show sortLB l = (l', true) by rw [← HE.out, ht]; rfl)
    have HR5 := Lib.hid (HR2.out.below hb3)
    go_wp2_with fail
    go_ret2
    exact ⟨A1, c1, by rw [Hf.out, HL.out]; rfl, by rw [Hf.out]; show RowE _ _ _ _ _ _ (.slice A1 l'.length c1); rw [HL.out]; exact HR5.out, B3⟩
end Go.Proofs.YtmhlnbihppojmaaGreat
namespace Go.Proofs.YtmhlnbihppojmaaGreat
open Go.RowKit
structure NeedV where
  d : Need
  A : Option Addr
  c : Nat
def encN (x : NeedV) : List Value := [.string x.d.key, .int .i64 x.d.op, .slice x.A x.d.values.length x.c]
theorem encN_len (x : NeedV) : (encN x).length = 3 := rfl
theorem encN_one (x : NeedV) : ∀ v ∈ encN x, v.oneCell' = true := by intro u hu; simp [encN] at hu; rcases hu with rfl | rfl | rfl <;> rfl
def C_E (x : NeedV) (es : List Value) : Prop := es = encN x
theorem encN_C (x : NeedV) (es : List Value) (h : C_E x es) : es = encN x := h
def GoodN (lo hi : Nat) (w : World) (x : NeedV) : Prop := x.d.key.size ≤ 9223372036854775807 ∧ I64 x.d.op ∧ Sl_Str lo hi w x.d.values (.slice x.A x.d.values.length x.c)
def OwnN (base : Nat) (w : World) (x : NeedV) : Prop :=
  x.d.key.size ≤ 9223372036854775807 ∧ I64 x.d.op ∧ (∀ s ∈ x.d.values, s.size ≤ 9223372036854775807) ∧ RowE encS 1 9 base w x.d.values (.slice x.A x.d.values.length x.c)
def AllN (base : Nat) (w : World) (L : List NeedV) : Prop := ∀ x ∈ L, OwnN base w x
theorem OwnN.good {base : Nat} {w : World} {x : NeedV} (h : OwnN base w x) : GoodN base w.heap.size w x :=
  ⟨h.1, h.2.1, RowE.sl encS_len h.2.2.2 (fun d hd => ⟨rfl, h.2.2.1 d hd⟩)⟩
theorem OwnN.carry {base : Nat} {w w' : World} {x : NeedV} (h : OwnN base w x) (hs : ∀ q, (Value.slice x.A x.d.values.length x.c).ownBlock = some q → w'.heap[q]? = w.heap[q]?) : OwnN base w' x :=
  ⟨h.1, h.2.1, h.2.2.1, h.2.2.2.carry hs⟩
theorem OwnN.below {base : Nat} {w w' : World} {x : NeedV} (h : OwnN base w x) (hb : Below w.heap.size w w') : OwnN base w' x := ⟨h.1, h.2.1, h.2.2.1, h.2.2.2.below hb⟩
theorem OwnN.less {base base' : Nat} {w : World} {x : NeedV} (h : OwnN base w x) (hb : base' ≤ base) : OwnN base' w x := ⟨h.1, h.2.1, h.2.2.1, h.2.2.2.less hb⟩
theorem AllN.below {base : Nat} {w w' : World} {L : List NeedV} (h : AllN base w L) (hb : Below w.heap.size w w') : AllN base w' L := fun x hx => (h x hx).below hb
theorem AllN.less {base base' : Nat} {w : World} {L : List NeedV} (h : AllN base w L) (hb : base' ≤ base) : AllN base' w L := fun x hx => (h x hx).less hb
/-- An append to the row itself leaves the members' own rows as they are. -/
theorem AllN.grown {base base' : Nat} {w w' : World} {L L' : List NeedV} {v : Value} (h : AllN base w L) (hr : RowE encN 3 31 base' w L' v) (hg : w.grownBy w' v.ownBlock) (ht : 9 ≠ 31) : AllN base w' L := fun x hx =>
  (h x hx).carry (fun q hq => hg.block q (World.ownsRow.lt (h x hx).2.2.2 q hq).2 (fun e => own_apart (h x hx).2.2.2 hr ht q hq e.symm))
theorem AllN.snoc {base : Nat} {w : World} {L : List NeedV} {x : NeedV} (h : AllN base w L) (hx : OwnN base w x) : AllN base w (L ++ [x]) := by
  intro y hy
  rcases List.mem_append.1 hy with h1 | h1
  · exact h y h1
  · rw [List.mem_singleton] at h1
    subst h1
    exact hx
theorem slOf_map {D E : Type} {C : D → List Value → Prop} {C' : E → List Value → Prop} {sz lo hi : Nat} {w : World} {l : List D} {v : Value} (f : D → E) (h : SlOf C sz lo hi w l v) (hC : ∀ x es, x ∈ l → C x es → C' (f x) es) : SlOf C' sz lo hi w (l.map f) v := by
  obtain ⟨A, c, rfl, h1, h2, h3⟩ := h
  refine ⟨A, c, by rw [List.length_map], by rw [List.length_map]; exact h1, h2, fun hp => ?_⟩
  rw [List.length_map] at hp
  obtain ⟨b, o, rfl, h4, h5, h6⟩ := h3 hp
  refine ⟨b, o, rfl, h4, h5, fun i d hd => ?_⟩
  rw [List.getElem?_map] at hd
  obtain ⟨x, hx, rfl⟩ := Option.map_eq_some_iff.1 hd
  obtain ⟨cs, e1, e2, e3⟩ := h6 i x hx
  exact ⟨cs, e1, e2, hC x cs (List.mem_of_getElem? hx) e3⟩
theorem sl_needs {lo hi : Nat} {w : World} {L : List NeedV} {v : Value} (h : SlOf C_E 3 lo hi w L v) (hg : ∀ x ∈ L, GoodN lo hi w x) : Sl_Need lo hi w (L.map (·.d)) v :=
  slOf_map (·.d) h (fun x es hx he => by
    obtain ⟨g1, g2, g3⟩ := hg x hx
    exact ⟨_, he, g1, g2, g3⟩)
theorem row_needs {base : Nat} {w : World} {L : List NeedV} {v : Value} (h : RowE encN 3 31 base w L v) (ha : AllN base w L) : Sl_Need base w.heap.size w (L.map (·.d)) v :=
  sl_needs (RowE.sl encN_len h (fun _ _ => rfl)) (fun x hx => (ha x hx).good)
theorem open_needs {lo hi : Nat} {w : World} {l : List Need} {v : Value} (h : Sl_Need lo hi w l v) : ∃ L : List NeedV, L.map (·.d) = l ∧ SlOf C_E 3 lo hi w L v ∧ ∀ x ∈ L, GoodN lo hi w x := by
  obtain ⟨A, c, rfl, h1, h2, h3⟩ := h
  by_cases hp : 0 < l.length
  · obtain ⟨b, o, rfl, h4, h5, h6⟩ := h3 hp
    obtain ⟨L, hL, hP⟩ := choose_list l.length (fun i (x : NeedV) => l[i]? = some x.d ∧ (∀ j, j < 3 → w.cell? ⟨b, o + i * 3 + j, none⟩ = (encN x)[j]?) ∧ GoodN lo hi w x) (fun i hi => by
      obtain ⟨d, hd⟩ := exists_at hi
      obtain ⟨cs, -, e2, v2, rfl, a0, a1, a2⟩ := h6 i d hd
      obtain ⟨A2, c2, rfl⟩ := a2.form
      exact ⟨⟨d, A2, c2⟩, hd, e2, a0, a1, a2⟩)
    have hm : L.map (·.d) = l := by
      apply List.ext_getElem?
      intro i
      rw [List.getElem?_map]
      by_cases hi : i < l.length
      · obtain ⟨x, hx⟩ := exists_at (l := L) (k := i) (by omega)
        rw [hx, (hP i x hx).1]
        rfl
      · rw [List.getElem?_eq_none (by omega), List.getElem?_eq_none (by omega)]
        rfl
    refine ⟨L, hm, ⟨_, c, by rw [hL], by omega, h2, fun _ => ⟨b, o, rfl, h4, h5, fun i x hx => ⟨encN x, rfl, (hP i x hx).2.1, rfl⟩⟩⟩, fun x hx => ?_⟩
    obtain ⟨i, hi⟩ := List.getElem?_of_mem hx
    exact (hP i x hi).2.2
  · obtain rfl : l = [] := List.eq_nil_of_length_eq_zero (by omega)
    exact ⟨[], rfl, ⟨A, c, rfl, h1, h2, fun h => absurd h hp⟩, fun x hx => by simp at hx⟩
theorem GoodN.now {lo : Nat} {w w' : World} {x : NeedV} (h : GoodN lo w.heap.size w x) (hb : Below w.heap.size w w') : GoodN lo w'.heap.size w' x := ⟨h.1, h.2.1, Sl_Str.now h.2.2 hb⟩
theorem sl_oneB {D : Type} {C : D → List Value → Prop} {enc : D → List Value} {sz : Nat} (hk : ∀ d, (enc d).length = sz) (w : World) (d : D) (hC : C d (enc d)) (ty : TypeId) (cs : Array Value) (hc : cs = (enc d).toArray) {B : Nat} (hB : B = w.heap.size) :
    SlOf C sz w.heap.size (w.alloc (.cells cs ty)).heap.size (w.alloc (.cells cs ty)) [d] (.slice (some ⟨B, 0, none⟩) 1 1) := by
  subst hB
  exact sl_one hk w d hC ty cs hc
set_option maxHeartbeats 2000000 in
set_option maxRecDepth 10000 in
theorem c_l15Copy (l : List Need) (v : Value) (w : World) (lo : Nat) (hs : Sl_Need lo w.heap.size w l v) (hn : l.length ≤ 1048576) (hv : ∀ d ∈ l, d.values.length ≤ 1048576) :
    Calls Tryz.prog 46 #[v] w fun e w' => ∃ (L : List NeedV) (A : Option Addr) (c : Nat), e = .returned (.slice A l.length c) ∧ L.map (·.d) = l ∧ RowE encN 3 31 w.heap.size w' L (.slice A l.length c) ∧ AllN w.heap.size w' L ∧ Below w.heap.size w w' := by
  obtain ⟨i0, hi, hz0, hz1, hz2⟩ := info_parts (show (Tryz.prog.info? 31).map (fun i => (i.zero, i.size, i.bytes)) = some (some (.agg #[.string ⟨#[]⟩, .int .i64 0, .slice none 0 0]), 3, 48) from by kernel_rfl)
  obtain ⟨j0, hj, jz0, jz1, jz2⟩ := info_parts (show (Tryz.prog.info? 9).map (fun i => (i.zero, i.size, i.bytes)) = some (some (.string ⟨#[]⟩), 1, 16) from by kernel_rfl)
  obtain ⟨L0, hL0, hS0, hG0⟩ := open_needs hs
  have HL0 := Lib.hid hL0
  have HG0 := Lib.hid hG0
  have Hv := Lib.hid hv
  have hl0 : L0.length = l.length := by rw [← hL0, List.length_map]
  obtain ⟨A, c, rfl, hlc, hc, hA⟩ := hS0
  have HA := Lib.hid hA
  rw [hl0]
  clear hL0 hG0 hs hA hv
  go_enter Tryz.func46, Tryz.ntmps46
  go_wp2_with fail
  go_loopw [3, 4] (fun s3 s4 wr => ∃ (k : Nat) (L : List NeedV) (B : Option Addr) (b : Nat), k ≤ l.length ∧ s4 = .int .i64 k ∧ s3 = .slice B k b ∧ L.map (·.d) = l.take k ∧ RowE encN 3 31 w.heap.size wr L (.slice B k b) ∧ AllN w.heap.size wr L ∧ Below w.heap.size w wr) (fun _ s4 _ => l.length - (intOf s4).toNat)
  case atStart => exact ⟨0, [], _, _, Nat.zero_le _, rfl, rfl, rfl, own_empty rfl (Nat.le_refl _), fun x hx => by simp at hx, bel⟩
  case round =>
    obtain ⟨k, L, B, b, hk, rfl, rfl, hLm, hR, hN, hbr⟩ := hrel
    have HLm := Lib.hid hLm
    have HR := Lib.hid hR
    have HN := Lib.hid hN
    have hLk : L.length = k := by have := congrArg List.length hLm; rw [List.length_map, List.length_take] at this; omega
    clear hLm hR hN
    by_cases hlt : k < l.length
    · obtain ⟨g, o, rfl, -, hgl, hcell⟩ := HA.out (by omega)
      obtain ⟨x, hx⟩ := exists_at (l := L0) (k := k) (by omega)
      obtain ⟨es, -, hcs, hE⟩ := hcell k x hx
      obtain rfl := encN_C x es hE
      have hxm : l[k]? = some x.d := by rw [← HL0.out, List.getElem?_map, hx]; rfl
      obtain ⟨x1, x2, x3⟩ := HG0.out x (List.mem_of_getElem? hx)
      have hvx := Hv.out x.d (List.mem_of_getElem? hxm)
      have hc0 := (hbr.cell (p := ⟨g, o + k * 3 + 0, none⟩) (by simp; omega)).trans (hcs 0 (by omega))
      have hc1 := (hbr.cell (p := ⟨g, o + k * 3 + 1, none⟩) (by simp; omega)).trans (hcs 1 (by omega))
      have hc2 := (hbr.cell (p := ⟨g, o + k * 3 + 2, none⟩) (by simp; omega)).trans (hcs 2 (by omega))
      simp [encN] at hc0 hc1 hc2
      have hbl : g < wr.heap.size := Nat.lt_of_lt_of_le hgl hbr.size
      have hk0 : (0 : Int) ≤ k := by omega
      have hk1 : (k : Int) < l.length := by omega
      have Hxm := Lib.hid hxm
      have hwr := hbr.size
      -- the values copied
      have hbW : Below w.heap.size w (wr.alloc (.cells #[.string x.d.key, .int .i64 x.d.op, .slice x.A x.d.values.length x.c] 31)) := hbr.alloc hwr _
      have hb0 : Below (wr.alloc (.cells #[.string x.d.key, .int .i64 x.d.op, .slice x.A x.d.values.length x.c] 31)).heap.size (wr.alloc (.cells #[.string x.d.key, .int .i64 x.d.op, .slice x.A x.d.values.length x.c] 31)) ((wr.alloc (.cells #[.string x.d.key, .int .i64 x.d.op, .slice x.A x.d.values.length x.c] 31)).alloc (.cells #[] 9)) := bel
      have hown : RowE encS 1 9 (wr.alloc (.cells #[.string x.d.key, .int .i64 x.d.op, .slice x.A x.d.values.length x.c] 31)).heap.size ((wr.alloc (.cells #[.string x.d.key, .int .i64 x.d.op, .slice x.A x.d.values.length x.c] 31)).alloc (.cells #[] 9)) [] (.slice (some ⟨wr.heap.size + 1, 0, none⟩) 0 0) := own_empty (by simp) (Nat.le_refl _)
      obtain ⟨v2, w2, hr2, hR2, hg2, -⟩ := run_append_rows (P := Tryz.prog) (enc := encS) (C := C_Str) ((wr.alloc (.cells #[.string x.d.key, .int .i64 x.d.op, .slice x.A x.d.values.length x.c] 31)).alloc (.cells #[] 9)) 29 29 (wr.alloc (.cells #[.string x.d.key, .int .i64 x.d.op, .slice x.A x.d.values.length x.c] 31)).heap.size 9 j0 (.string ⟨#[]⟩) 1 16 Tryz.underlying29 hj jz0 jz1 jz2 rfl (by decide) encS_len encS_one encS_C _ 0 [] rfl hown x.d.values x.A x.d.values.length x.c _ _ rfl (Sl_Str.now (Sl_Str.now x3 hbW) hb0) (by unfold maxLen; omega) (by omega) (by simp)
      rw [List.nil_append] at hR2
      obtain ⟨A2, c2, rfl⟩ := hR2.form
      have hb2 := Below.grown hb0 hg2 (by simp) (fun q hq => by simp [Value.ownBlock] at hq; simp; omega)
      have hbox := (hb2.block wr.heap.size (by simp)).trans (heap_alloc_new wr _)
      obtain ⟨y0, y1, y2, yf⟩ := row3 hbox
      have hs2 := hb2.size
      simp at hs2
      have hyl := row_lt hbox
      have hb3 : Below wr.heap.size wr w2 := (ext_alloc (Below.refl _ _)).trans (hb2.mono (by simp))
      -- the new member
      have hbF : Below wr.heap.size wr (w2.setCell ⟨wr.heap.size, 2, none⟩ (.slice A2 x.d.values.length c2)) := hb3.setCell (Nat.le_refl _) _
      have hR3 : RowE encS 1 9 wr.heap.size (w2.setCell ⟨wr.heap.size, 2, none⟩ (.slice A2 x.d.values.length c2)) x.d.values (.slice A2 x.d.values.length c2) := (hR2.less (by simp)).carry (fun q hq => Below.heap_setCell w2 ⟨wr.heap.size, 2, none⟩ _ q (by have := (World.ownsRow.lt hR2 q hq).1; simp at this; simp; omega))
      have hX : OwnN wr.heap.size (w2.setCell ⟨wr.heap.size, 2, none⟩ (.slice A2 x.d.values.length c2)) ⟨x.d, A2, c2⟩ := ⟨x1, x2, size_strs x3, hR3⟩
      have hRo := HR.out.below hbF
      have hNo := HN.out.below hbF
      have hbG : Below (w2.setCell ⟨wr.heap.size, 2, none⟩ (.slice A2 x.d.values.length c2)).heap.size (w2.setCell ⟨wr.heap.size, 2, none⟩ (.slice A2 x.d.values.length c2)) ((w2.setCell ⟨wr.heap.size, 2, none⟩ (.slice A2 x.d.values.length c2)).alloc (.cells #[.string x.d.key, .int .i64 x.d.op, .slice A2 x.d.values.length c2] 31)) := bel
      have hszF := hbF.size
      obtain ⟨v4, w4, hr4, hR4, hg4, -⟩ := run_append_rows (P := Tryz.prog) (enc := encN) (C := C_E) ((w2.setCell ⟨wr.heap.size, 2, none⟩ (.slice A2 x.d.values.length c2)).alloc (.cells #[.string x.d.key, .int .i64 x.d.op, .slice A2 x.d.values.length c2] 31)) 24 24 w.heap.size 31 i0 (.agg #[.string ⟨#[]⟩, .int .i64 0, .slice none 0 0]) 3 48 Tryz.underlying24 hi hz0 hz1 hz2 rfl (by decide) encN_len encN_one encN_C _ k L hLk (hRo.below hbG) [⟨x.d, A2, c2⟩] (some ⟨w2.heap.size, 0, none⟩) 1 1 _ _ rfl (sl_oneB (C := C_E) encN_len _ ⟨x.d, A2, c2⟩ rfl 31 _ rfl (by simp)) (by unfold maxLen; omega) (by omega) (by have := hbG.size; simp at this ⊢; simp at hszF; omega)
      have hN4 := Lib.hid (((hNo.below hbG).snoc ((hX.less hwr).below hbG)).grown (hRo.below hbG) hg4 (by decide))
      obtain ⟨A4, c4, rfl⟩ := hR4.form
      have hlen : (L ++ [(⟨x.d, A2, c2⟩ : NeedV)]).length = k + 1 := by simp [hLk]
      rw [hlen] at hR4 hr4
      have HR4 := Lib.hid hR4
      have hLm4 := Lib.hid (show (L ++ [(⟨x.d, A2, c2⟩ : NeedV)]).map (·.d) = l.take (k + 1) by rw [List.map_append, HLm.out, List.take_add_one, Hxm.out]; rfl)
      have Bw4 := Lib.hid (hbr.trans (Below.grown ((hbF.mono hwr).trans (hbG.mono (by omega))) hg4 (by have := hbG.size; omega) (fun q hq => (World.ownsRow.lt hRo q hq).1)))
      clear hR4 hg4 hRo hNo hbG hX hR3 hbF hb3 hb2 hg2 hR2 hown hb0 hbW hlen x3 hcs hcell hx hxm hvx hLk
      go_wp2_with (first | (at_builtin; refine wpList_append_of rfl (.tmp 17) (.tmp 19) 29 rfl _ _ _ w2 rfl rfl hr2 ?_) | (at_builtin; refine wpList_append_of rfl (.tmp 22) (.tmp 24) 24 rfl _ _ _ w4 rfl rfl hr4 ?_))
      clear hr2 hr4
      go_roundw
      case rel => exact ⟨k + 1, _, A4, c4, by omega, by go_num, rfl, hLm4.out, HR4.out, hN4.out, Bw4.out⟩
      case measure => simp [intOf]; omega
    · obtain rfl : k = l.length := by omega
      have HLf := Lib.hid (show L.map (·.d) = l by have := HLm.out; rw [List.take_length] at this; exact this)
      go_wp2_with fail
      go_ret
      exact ⟨L, B, b, rfl, HLf.out, HR.out, HN.out, hbr⟩
end Go.Proofs.YtmhlnbihppojmaaGreat
namespace Go.Proofs.YtmhlnbihppojmaaGreat
open Go.RowKit Go.Lib
/-- The block of a member's values. -/
def NeedV.blk (x : NeedV) : Option Nat := (Value.slice x.A x.d.values.length x.c).ownBlock
/-- No two members have their values in one block. -/
def ApartN (L : List NeedV) : Prop := L.Pairwise (fun x y => ∀ q, x.blk = some q → y.blk ≠ some q)
/-- Storing one cell of a member. -/
theorem RowE.poke {D : Type} {enc : D → List Value} {sz ty base g n c k j : Nat} {w : World} {l : List D} {x y : D} {u : Value} (hk : ∀ d, (enc d).length = sz) (hs : 0 < sz) (h : RowE enc sz ty base w l (.slice (some ⟨g, 0, none⟩) n c)) (hx : l[k]? = some x) (hj : j < sz) (hy : enc y = (enc x).set j u) :
    RowE enc sz ty base (w.setCell ⟨g, k * sz + j, none⟩ u) (l.set k y) (.slice (some ⟨g, 0, none⟩) n c) := by
  have hkl : k < l.length := (List.getElem?_eq_some_iff.1 hx).1
  obtain ⟨rfl, hb, h1, h2, cur, hg, hcs, hrow⟩ := h.at hk
  have hcell : (k + 1) * sz ≤ l.length * sz := Nat.mul_le_mul_right _ hkl
  have hlc : l.length * sz ≤ c * sz := Nat.mul_le_mul_right _ h1
  rw [Nat.succ_mul] at hcell
  have hput : (w.setCell ⟨g, k * sz + j, none⟩ u).heap[g]? = some (.cells (cur.setIfInBounds (k * sz + j) u) ty (0, 0)) := heap_setCell_same w g (k * sz + j) cur ty u hg
  refine ⟨by rw [flatE_len hk], .inr ⟨g, c, _, by rw [List.length_set], hb, hput, by rw [List.length_set]; exact h1, by unfold maxLen; omega, by simpa using hcs, ?_⟩⟩
  apply List.ext_getElem?
  intro i
  rw [List.length_set, List.getElem?_take]
  by_cases hi : i < l.length * sz
  · rw [if_pos hi, Array.getElem?_toList]
    have hi2 : i / sz < l.length := by rwa [Nat.div_lt_iff_lt_mul hs]
    have h3 : i / sz * sz + i % sz = i := by rw [Nat.mul_comm]; exact Nat.div_add_mod i sz
    have hm := Nat.mod_lt i hs
    rw [Array.getElem?_setIfInBounds]
    by_cases he : i / sz = k
    · have h4 := flatE_at hk (l := l.set k y) (i := k) (d := y) (by rw [List.getElem?_set_self hkl]) hm
      have h6 : k * sz + i % sz = i := by rw [← he]; exact h3
      rw [h6] at h4
      rw [h4, hy, List.getElem?_set]
      have h5 := hrow k x hx _ hm
      rw [h6] at h5
      by_cases hji : j = i % sz
      · rw [if_pos (by omega), if_pos (by omega), if_pos hji, if_pos (by rw [hk]; exact hj)]
      · rw [if_neg (by omega), if_neg hji, h5]
    · obtain ⟨d, hd⟩ := exists_at hi2
      have h4 := flatE_at hk (l := l.set k y) (i := i / sz) (d := d) (by rw [List.getElem?_set_ne (fun e => he e.symm)]; exact hd) hm
      rw [h3] at h4
      have h5 := hrow _ d hd _ hm
      rw [h3] at h5
      rw [h4, ← h5, if_neg ?_]
      intro e
      rcases Nat.lt_or_gt_of_ne he with hlt | hgt
      · have : (i / sz + 1) * sz ≤ k * sz := Nat.mul_le_mul_right _ hlt
        rw [Nat.succ_mul] at this
        omega
      · have : (k + 1) * sz ≤ i / sz * sz := Nat.mul_le_mul_right _ hgt
        rw [Nat.succ_mul] at this
        omega
  · rw [if_neg hi, List.getElem?_eq_none (by rw [flatE_len hk, List.length_set]; omega)]
set_option maxRecDepth 10000 in
theorem c_Clone_Str (l : List ByteArray) (v : Value) (w : World) (lo : Nat) (hs : SlOf C_Str 1 lo w.heap.size w l v) (hn : l.length ≤ 1048576) :
    Calls Tryz.prog 99 #[v] w fun e w' => ∃ A c, e = .returned (.slice A l.length c) ∧ RowE encS 1 9 w.heap.size w' l (.slice A l.length c) ∧ Below w.heap.size w w' := by
  obtain ⟨i0, hi, hz0, hz1, hz2⟩ := info_parts (show (Tryz.prog.info? 9).map (fun i => (i.zero, i.size, i.bytes)) = some (some (.string ⟨#[]⟩), 1, 16) from by kernel_rfl)
  have heq := fun (a : Option Addr) (n c : Nat) (w : World) => run_eql_slice_nil (P := Tryz.prog) w 29 9 a n c Tryz.underlying29
  have hs' := hs
  obtain ⟨A, c, rfl, hlc, hc, hA⟩ := hs
  rcases A with _ | ad
  · have hl0 : l = [] := by
      by_cases hp : 0 < l.length
      · obtain ⟨b, o, h, -⟩ := hA hp
        cases h
      · exact List.eq_nil_of_length_eq_zero (by omega)
    subst hl0
    clear hA
    go_enter Tryz.func99, Tryz.ntmps99
    go_wp2_with fail
    go_ret
    exact ⟨_, _, rfl, RowE.nil, bel⟩
  · clear hA
    have hb0 : Below w.heap.size w (w.alloc (.cells #[] 9)) := bel
    have Hs := Lib.hid (SlOf.now hs' hb0)
    have Hown : RowE encS 1 9 w.heap.size (w.alloc (.cells #[] 9)) [] (.slice (some ⟨w.heap.size, 0, none⟩) 0 0) := own_empty rfl (Nat.le_refl _)
    obtain ⟨v', w1, hr, hR, hgrow, hat⟩ := run_append_rows (P := Tryz.prog) (enc := encS) (C := C_Str) (w.alloc (.cells #[] 9)) 29 29 w.heap.size 9 i0 (.string ⟨#[]⟩) 1 16 Tryz.underlying29 hi hz0 hz1 hz2 rfl (by decide) encS_len encS_one encS_C _ 0 [] rfl Hown l (some ad) l.length c lo _ rfl Hs.out (by unfold maxLen; omega) (by omega) (by simp)
    rw [List.nil_append] at hR
    obtain ⟨A', c', rfl⟩ := hR.form
    have HR := Lib.hid hR
    have Bw := Below.grown hb0 hgrow (by simp) (fun k hk => by simp [Value.ownBlock] at hk; omega)
    clear hR hgrow hat Hown
    go_enter Tryz.func99, Tryz.ntmps99
    go_wp2_with (at_builtin; refine wpList_append_of rfl (.tmp 5) (.tmp 6) 29 rfl _ _ _ w1 rfl rfl hr ?_)
    go_ret
    exact ⟨A', c', rfl, HR.out, Bw⟩
set_option maxRecDepth 10000 in
theorem c_Clone_Need (l : List NeedV) (v : Value) (w : World) (lo : Nat) (hs : SlOf C_E 3 lo w.heap.size w l v) (hn : l.length ≤ 1048576) :
    Calls Tryz.prog 98 #[v] w fun e w' => ∃ A c, e = .returned (.slice A l.length c) ∧ RowE encN 3 31 w.heap.size w' l (.slice A l.length c) ∧ Below w.heap.size w w' := by
  obtain ⟨i0, hi, hz0, hz1, hz2⟩ := info_parts (show (Tryz.prog.info? 31).map (fun i => (i.zero, i.size, i.bytes)) = some (some (.agg #[.string ⟨#[]⟩, .int .i64 0, .slice none 0 0]), 3, 48) from by kernel_rfl)
  have heq := fun (a : Option Addr) (n c : Nat) (w : World) => run_eql_slice_nil (P := Tryz.prog) w 24 31 a n c Tryz.underlying24
  have hs' := hs
  obtain ⟨A, c, rfl, hlc, hc, hA⟩ := hs
  rcases A with _ | ad
  · have hl0 : l = [] := by
      by_cases hp : 0 < l.length
      · obtain ⟨b, o, h, -⟩ := hA hp
        cases h
      · exact List.eq_nil_of_length_eq_zero (by omega)
    subst hl0
    clear hA
    go_enter Tryz.func98, Tryz.ntmps98
    go_wp2_with fail
    go_ret
    exact ⟨_, _, rfl, RowE.nil, bel⟩
  · clear hA
    have hb0 : Below w.heap.size w (w.alloc (.cells #[] 31)) := bel
    have Hs := Lib.hid (SlOf.now hs' hb0)
    have Hown : RowE encN 3 31 w.heap.size (w.alloc (.cells #[] 31)) [] (.slice (some ⟨w.heap.size, 0, none⟩) 0 0) := own_empty rfl (Nat.le_refl _)
    obtain ⟨v', w1, hr, hR, hgrow, hat⟩ := run_append_rows (P := Tryz.prog) (enc := encN) (C := C_E) (w.alloc (.cells #[] 31)) 24 24 w.heap.size 31 i0 (.agg #[.string ⟨#[]⟩, .int .i64 0, .slice none 0 0]) 3 48 Tryz.underlying24 hi hz0 hz1 hz2 rfl (by decide) encN_len encN_one encN_C _ 0 [] rfl Hown l (some ad) l.length c lo _ rfl Hs.out (by unfold maxLen; omega) (by omega) (by simp)
    rw [List.nil_append] at hR
    obtain ⟨A', c', rfl⟩ := hR.form
    have HR := Lib.hid hR
    have Bw := Below.grown hb0 hgrow (by simp) (fun k hk => by simp [Value.ownBlock] at hk; omega)
    clear hR hgrow hat Hown
    go_enter Tryz.func98, Tryz.ntmps98
    go_wp2_with (at_builtin; refine wpList_append_of rfl (.tmp 5) (.tmp 6) 24 rfl _ _ _ w1 rfl rfl hr ?_)
    go_ret
    exact ⟨A', c', rfl, HR.out, Bw⟩
theorem apart_snoc {L : List NeedV} {x : NeedV} {B : Nat} (h : ApartN L) (hL : ∀ y ∈ L, ∀ q, y.blk = some q → q < B) (hx : ∀ q, x.blk = some q → B ≤ q) : ApartN (L ++ [x]) := by
  unfold ApartN
  rw [List.pairwise_append]
  refine ⟨h, List.pairwise_singleton _ _, fun a ha b hb q h1 h2 => ?_⟩
  rw [List.mem_singleton] at hb
  subst hb
  have := hL a ha q h1
  have := hx q h2
  omega
theorem take_drop_set {D : Type} {L : List D} {k : Nat} {P : List D} {y : D} (hP : P.length = k) : (P ++ L.drop k).set k y = P ++ [y] ++ L.drop (k + 1) ∨ L.length ≤ k := by
  by_cases h : k < L.length
  · left
    rw [List.drop_eq_getElem_cons h, List.set_append_right _ _ (by omega), hP, Nat.sub_self, List.set_cons_zero]
    simp
  · exact .inr (by omega)
set_option maxHeartbeats 2000000 in
set_option maxRecDepth 10000 in
theorem c_impl_copyNeeds (l : List Need) (v : Value) (w : World) (lo : Nat) (hs : Sl_Need lo w.heap.size w l v) (hn : l.length ≤ 1048576) (hv : ∀ d ∈ l, d.values.length ≤ 1048576) :
    Calls Tryz.prog 39 #[v] w fun e w' => ∃ (L : List NeedV) (A : Option Addr) (c : Nat), e = .returned (.slice A l.length c) ∧ L.map (·.d) = l ∧ RowE encN 3 31 w.heap.size w' L (.slice A l.length c) ∧ AllN w.heap.size w' L ∧ ApartN L ∧ Below w.heap.size w w' := by
  obtain ⟨L0, hL0, hS0, hG0⟩ := open_needs hs
  have HL0 := Lib.hid hL0
  have HG0 := Lib.hid hG0
  have Hv := Lib.hid hv
  have hl0 : L0.length = l.length := by rw [← hL0, List.length_map]
  have HS0 := Lib.hid hS0
  obtain ⟨A, c, rfl, hlc, hc, hA⟩ := hS0
  have HA := Lib.hid hA
  rw [hl0] at HS0 ⊢
  clear hL0 hG0 hs hA hv
  go_enter Tryz.func39, Tryz.ntmps39
  go_wp2_with fail
  refine (c_Clone_Need L0 _ _ _ HS0.out (by omega)).mono ?_
  rintro e w1 ⟨B, b, rfl, hR1, hb1⟩
  rw [hl0] at hR1 ⊢
  have HR1 := Lib.hid hR1
  have hs1 := hb1.size
  clear hR1
  go_wp2_with fail
  go_loopw [10] (fun s10 wr => ∃ (k : Nat) (L : List NeedV), k ≤ l.length ∧ s10 = .int .i64 k ∧ L.length = k ∧ L.map (·.d) = l.take k ∧ RowE encN 3 31 w.heap.size wr (L ++ L0.drop k) (.slice B l.length b) ∧ AllN w1.heap.size wr L ∧ ApartN L ∧ (∀ q, (Value.slice B l.length b).ownBlock = some q → q < w1.heap.size) ∧ Below w.heap.size w wr ∧ w1.heap.size ≤ wr.heap.size) (fun s10 _ => l.length - (intOf s10).toNat)
  case atStart => exact ⟨0, [], Nat.zero_le _, rfl, rfl, rfl, HR1.out, fun x hx => by simp at hx, List.Pairwise.nil, fun q hq => (World.ownsRow.lt HR1.out q hq).2, hb1, Nat.le_refl _⟩
  case round =>
    obtain ⟨k, L, hk, rfl, hLk, hLm, hR, hN, hAp, hq1, hbr, hw1⟩ := hrel
    have HLm := Lib.hid hLm
    have HR := Lib.hid hR
    have HN := Lib.hid hN
    have HAp := Lib.hid hAp
    have Hq1 := Lib.hid hq1
    clear hLm hR hN hAp hq1
    by_cases hlt : k < l.length
    · obtain ⟨g, o, rfl, -, hgl, hcell⟩ := HA.out (by omega)
      obtain ⟨x, hx⟩ := exists_at (l := L0) (k := k) (by omega)
      obtain ⟨es, -, hcs, hE⟩ := hcell k x hx
      obtain rfl := encN_C x es hE
      have hxm : l[k]? = some x.d := by rw [← HL0.out, List.getElem?_map, hx]; rfl
      obtain ⟨x1, x2, x3⟩ := HG0.out x (List.mem_of_getElem? hx)
      have hvx := Hv.out x.d (List.mem_of_getElem? hxm)
      have hc0 := (hbr.cell (p := ⟨g, o + k * 3 + 0, none⟩) (by simp; omega)).trans (hcs 0 (by omega))
      have hc1 := (hbr.cell (p := ⟨g, o + k * 3 + 1, none⟩) (by simp; omega)).trans (hcs 1 (by omega))
      have hc2 := (hbr.cell (p := ⟨g, o + k * 3 + 2, none⟩) (by simp; omega)).trans (hcs 2 (by omega))
      simp [encN] at hc0 hc1 hc2
      have hbl : g < wr.heap.size := Nat.lt_of_lt_of_le hgl hbr.size
      have hk0 : (0 : Int) ≤ k := by omega
      have hk1 : (k : Int) < l.length := by omega
      have Hxm := Lib.hid hxm
      have Hx := Lib.hid hx
      have hwr := hbr.size
      have HXG := Lib.hid x3
      have hbox : Below wr.heap.size wr (wr.alloc (.cells #[.string x.d.key, .int .i64 x.d.op, .slice x.A x.d.values.length x.c] 31)) := bel
      have HSx := Lib.hid (Sl_Str.keep x3 (same_below (hbr.trans (hbox.mono hwr))) (Nat.le_refl _) (Nat.le_trans hwr hbox.size))
      have hb3 := heap_alloc_new wr (.cells #[.string x.d.key, .int .i64 x.d.op, .slice x.A x.d.values.length x.c] 31)
      clear hcs hcell hx hxm x3
      go_wp2_with fail
      refine (c_Clone_Str x.d.values (.slice x.A x.d.values.length x.c) (wr.alloc (.cells #[.string x.d.key, .int .i64 x.d.op, .slice x.A x.d.values.length x.c] 31)) _ HSx.out hvx).mono ?_
      rintro e w2 ⟨A2, c2, rfl, hR2, hb2⟩
      have hs2 := hb2.size
      simp at hs2
      have hbw2 : Below wr.heap.size wr w2 := hbox.trans (hb2.mono hbox.size)
      have HR2 := Lib.hid hR2
      have hRo := HR.out.below hbw2
      have hNo := HN.out.below hbw2
      obtain ⟨gB, bB, curB, hvB, -, hgB, hB1, hB2, -, -⟩ := hRo.row encN_len (by rw [List.length_append, List.length_drop]; omega)
      simp only [Value.slice.injEq] at hvB
      obtain ⟨rfl, hLn, rfl⟩ := hvB
      have hq := Hq1.out gB rfl
      have hxL : (L ++ L0.drop k)[k]? = some x := by rw [List.getElem?_append_right (by omega), List.getElem?_drop, hLk, Nat.sub_self, Nat.add_zero]; exact Hx.out
      have hP := hRo.poke (j := 2) (u := .slice A2 x.d.values.length c2) (y := ⟨x.d, A2, c2⟩) encN_len (by decide) hxL (by decide) rfl
      have hset : (L ++ L0.drop k).set k ⟨x.d, A2, c2⟩ = L ++ [⟨x.d, A2, c2⟩] ++ L0.drop (k + 1) := by
        rcases take_drop_set (L := L0) (P := L) (y := (⟨x.d, A2, c2⟩ : NeedV)) hLk with h | h
        · exact h
        · omega
      rw [hset] at hP
      have HP := Lib.hid hP
      have hfz : ∀ o, w2.frozen? ⟨gB, o, none⟩ = false := fun o => frozen_row hgB o
      have hgl2 := row_lt hgB
      have hcB : ∃ u, w2.cell? ⟨gB, k * 3 + 2, none⟩ = some u := by
        obtain ⟨-, -, -, -, cur9, hg9, -, hrow9⟩ := hRo.at encN_len
        refine ⟨_, by rw [cell_of_row _ gB _ cur9 _ _ hg9]; exact hrow9 k x hxL 2 (by decide)⟩
      obtain ⟨u9, hu9⟩ := hcB
      have HNf := Lib.hid (show AllN w1.heap.size (w2.setCell ⟨gB, k * 3 + 2, none⟩ (.slice A2 x.d.values.length c2)) (L ++ [⟨x.d, A2, c2⟩]) from AllN.snoc (fun z hz => (hNo z hz).carry (fun q hq9 => Below.heap_setCell w2 ⟨gB, k * 3 + 2, none⟩ _ q (by have := (World.ownsRow.lt (hNo z hz).2.2.2 q hq9).1; simp; omega))) ⟨x1, x2, size_strs HXG.out, ((HR2.out.less (by simp; omega)).carry (fun q hq9 => Below.heap_setCell w2 ⟨gB, k * 3 + 2, none⟩ _ q (by have := (World.ownsRow.lt HR2.out q hq9).1; simp at this; simp; omega)))⟩)
      have HApf := Lib.hid (apart_snoc (x := (⟨x.d, A2, c2⟩ : NeedV)) (B := wr.heap.size) HAp.out (fun z hz q hq9 => (World.ownsRow.lt (HN.out z hz).2.2.2 q hq9).2) (fun q hq9 => by have := (World.ownsRow.lt HR2.out q hq9).1; simp at this; omega))
      have HLf := Lib.hid (show (L ++ [(⟨x.d, A2, c2⟩ : NeedV)]).map (·.d) = l.take (k + 1) by rw [List.map_append, HLm.out, List.take_add_one, Hxm.out]; rfl)
      have hbF : Below w.heap.size w (w2.setCell ⟨gB, k * 3 + 2, none⟩ (.slice A2 x.d.values.length c2)) := (hbr.trans (hbw2.mono hwr)).setCell (p := ⟨gB, k * 3 + 2, none⟩) (by have := (World.ownsRow.lt hRo gB rfl).1; exact this) _
      obtain ⟨y0, y1, y2, yf⟩ := row3 ((hb2.block wr.heap.size (by simp)).trans hb3)
      have hlen : (L ++ [(⟨x.d, A2, c2⟩ : NeedV)]).length = k + 1 := by simp [hLk]
      have HLn := Lib.hid hlen
      clear hRo hNo hP hset hgB hR2 hb2 hbw2 hxL hbox hb3 hlen hLn hB1 hB2
      go_wp2_with fail
      go_roundw
      case rel => exact ⟨k + 1, L ++ [⟨x.d, A2, c2⟩], by omega, by go_num, HLn.out, HLf.out, HP.out, HNf.out, HApf.out, Hq1.out, hbF, by simp [World.setCell]; omega⟩
      case measure => simp [intOf]; omega
    · obtain rfl : k = l.length := by omega
      have HLf := Lib.hid (show L.map (·.d) = l by have := HLm.out; rw [List.take_length] at this; exact this)
      have HRf := Lib.hid (show RowE encN 3 31 w.heap.size wr L (.slice B l.length b) by have := HR.out; rw [List.drop_eq_nil_of_le (by omega), List.append_nil] at this; exact this)
      go_wp2_with fail
      go_ret
      exact ⟨L, B, b, rfl, HLf.out, HRf.out, HN.out.less hs1, HAp.out, hbr⟩
end Go.Proofs.YtmhlnbihppojmaaGreat
namespace Go.Proofs.YtmhlnbihppojmaaGreat
open Go.RowKit
theorem Cum.up {a b x w : World} {n : Nat} (_h : Cum a b) (_k : Below n x w) (h : Below a.heap.size a w) : Cum a w := ⟨h⟩
end Go.Proofs.YtmhlnbihppojmaaGreat
