/- The library's sorts in the program's SortNeeds: slices.Sort over a row of strings, slices.SortFunc over a row of requirements. No conditions. -/
import Derived.Test.YtmhlnbihppojmaaNeedC
import Derived.Test.YtmhlnbihppojmaaTotN
import Derived.Test.YtmhlnbihppojmaaSortE
import Derived.Test.YtmhlnbihppojmaaLaidS
import Derived.Sort.OwnSorted
import Derived.Shelf.SlSortCmp.NoneTotal
namespace Go.Proofs.Ytmhlnbihppojmaa
open Go.RowKit

theorem enc_map (l : List ByteArray) : (l.map (fun b => b.data.toList)).map Go.Proofs.encStr = flatE encS l := by
  induction l with
  | nil => rfl
  | cons a l ih =>
    rw [List.map_cons, List.map_cons, ih]
    rfl
theorem le_less (a b : List UInt8) (h : decide (a ≤ b) = true) : Op.bytesLess b a = false := by
  rw [Go.Proofs.bytesLess_eq]
  rw [decide_eq_true_eq] at h
  rw [decide_eq_false_iff_not]
  exact List.not_lt.2 h
theorem c_slices_SortS (l : List ByteArray) (v : Value) (base : Nat) (w : World) (h : RowE encS 1 9 base w l v) (hn : l.length ≤ 1048576) :
    Calls Try.prog 76 #[v] w fun e w' => ∃ l' : List ByteArray, e = .returned (.tuple #[]) ∧ l'.length = l.length ∧ (∀ x, x ∈ l' ↔ x ∈ l) ∧ l'.Pairwise (fun a b => lessS b a = false) ∧ RowE encS 1 9 base w' l' v ∧ Aside (fun b => v.ownBlock = some b) w w' := by
  rcases h.2 with ⟨rfl, h0⟩ | ⟨g, cap, cur, rfl, hb, hg, h1, h2, h3, h4⟩
  · obtain rfl : l = [] := List.eq_nil_of_length_eq_zero h0
    have hcon := AnyM.slices_Sort_string_none sortStr none 0 w
    change Calls Try.prog 76 _ _ _ at hcon
    refine hcon.mono ?_
    rintro e w' ⟨rfl, rfl⟩
    exact ⟨[], rfl, rfl, fun x => Iff.rfl, List.Pairwise.nil, h, Aside.refl _ _⟩
  · obtain ⟨ss, hss⟩ : ∃ ss, ss = l.map (fun b => b.data.toList) := ⟨_, rfl⟩
    have hsl : ss.length = l.length := by rw [hss, List.length_map]
    have hfl : ss.map Go.Proofs.encStr = flatE encS l := by rw [hss]; exact enc_map l
    have h4' : cur.toList.take ss.length = ss.map Go.Proofs.encStr := by rw [hfl, hsl]; rw [Nat.mul_one] at h4; exact h4
    have hcon := AnyM.slices_Sort_string sortStr g 0 cap ss w (holds_of_block hg h4') (row_lt hg) (by omega)
    change Calls Try.prog 76 _ _ _ at hcon
    rw [hsl] at hcon
    refine hcon.mono ?_
    rintro e w' ⟨rfl, n, os, rfl⟩
    obtain ⟨ts, hts⟩ : ∃ ts, ts = ss.mergeSort (fun x y => decide (x ≤ y)) := ⟨_, rfl⟩
    rw [← hts]
    have htl : ts.length = ss.length := by rw [hts, List.length_mergeSort]
    have hperm : ts.Perm ss := by rw [hts]; exact List.mergeSort_perm _ _
    have hpw : ts.Pairwise (fun a b => decide (a ≤ b) = true) := by
      rw [hts]
      refine List.pairwise_mergeSort (fun a b c h1 h2 => ?_) (fun a b => ?_) ss
      · simp only [decide_eq_true_eq] at *; exact List.le_trans h1 h2
      · simp only [Bool.or_eq_true, decide_eq_true_eq]; exact List.le_total a b
    have hback : (ts.map (fun b => (⟨b.toArray⟩ : ByteArray))).map (fun b => b.data.toList) = ts := by
      rw [List.map_map]
      conv => rhs; rw [← List.map_id ts]
      apply List.map_congr_left
      intro b _
      rfl
    refine ⟨ts.map (fun b => ⟨b.toArray⟩), rfl, by rw [List.length_map, htl, hsl], fun x => ?_, ?_, ?_, ⟨(grownBy_sorted ts.toArray).os, (grownBy_sorted ts.toArray).tape, (grownBy_sorted ts.toArray).output, (grownBy_sorted ts.toArray).size, fun b hb2 hn => (grownBy_sorted ts.toArray).block b hb2 (fun e => hn e.symm)⟩⟩
    · have hmem : ∀ z : ByteArray, z ∈ ts.map (fun b => (⟨b.toArray⟩ : ByteArray)) ↔ z.data.toList ∈ ts := fun z => by
        rw [List.mem_map]
        constructor
        · rintro ⟨b, hb3, rfl⟩; exact hb3
        · intro hz; exact ⟨_, hz, by cases z; rfl⟩
      rw [hmem, hperm.mem_iff, hss, List.mem_map]
      constructor
      · rintro ⟨b, hb3, hb4⟩
        have : b = x := by cases b; cases x; simp at hb4; rw [hb4]
        rw [← this]; exact hb3
      · intro hx; exact ⟨x, hx, rfl⟩
    · rw [List.pairwise_map]
      refine hpw.imp (fun {a b} hab => ?_)
      have := le_less a b hab
      unfold lessS
      rw [ByteArray.toList_eq, ByteArray.toList_eq]
      exact this
    · have hro := ownsRow_sorted (n := n) (os := os) (ss := ss) (ts := ts) htl hb hg (by rw [hsl]; exact h1) h2 h3
      rw [hsl] at hro
      unfold RowE
      rw [List.length_map, htl, hsl, ← enc_map, hback]
      exact hro
set_option maxHeartbeats 1000000 in
theorem x_compareNeeds (a b : Need) (ca cb : List Value) (W : World) (lo lo' : Nat) (ha : C_Need lo W.heap.size W a ca) (hb : C_Need lo' W.heap.size W b cb) :
    Calls Try.prog 79 #[.agg ca.toArray, .agg cb.toArray] W fun e w' => e = .returned (.int .i64 (cmpN a b)) ∧ Gr W w' := by
  obtain ⟨va, rfl, -, -, a2⟩ := ha
  obtain ⟨vb, rfl, -, -, b2⟩ := hb
  obtain ⟨A, c, rfl⟩ := a2.form
  obtain ⟨B, c', rfl⟩ := b2.form
  have hq : Below W.heap.size W ((W.alloc (.cells #[.string a.key, .int .i64 a.op, .slice A a.values.length c] 98)).alloc (.cells #[.string b.key, .int .i64 b.op, .slice B b.values.length c'] 98)) := (by repeat (first | (with_reducible exact Below.refl _ _) | (with_reducible refine ext_alloc ?_) | ((with_reducible refine ext_setCell ?_ ?_); focus (simp; (try omega))) | (with_reducible refine below_drewN ?_ _) | (with_reducible refine Below.drew ?_) | (with_reducible (apply ext_step; assumption))))
  have hbel : ∀ {w1 w2 : World}, Gr w1 w2 → Below w1.heap.size w1 w2 := fun {w1 w2} hg => by
    obtain ⟨q, os, rfl⟩ := hg
    exact ⟨rfl, rfl, rfl, by simp [Go.Sort.grow, World.drewN], fun i hi => by show ((w1.drewN q).heap ++ os)[i]? = _; rw [Array.getElem?_append_left (by simpa [World.drewN] using hi)]; rfl⟩
  go_enter Try.func79, Try.ntmps79
  go_wp2_with fail
  go_region_held3 (fun w' => Gr ((W.alloc (.cells #[.string a.key, .int .i64 a.op, .slice A a.values.length c] 98)).alloc (.cells #[.string b.key, .int .i64 b.op, .slice B b.values.length c'] 98)) w' ∧ (∀ xb xo, xb < ((W.alloc (.cells #[.string a.key, .int .i64 a.op, .slice A a.values.length c] 98)).alloc (.cells #[.string b.key, .int .i64 b.op, .slice B b.values.length c'] 98)).heap.size → w'.cell? ⟨xb, xo, none⟩ = ((W.alloc (.cells #[.string a.key, .int .i64 a.op, .slice A a.values.length c] 98)).alloc (.cells #[.string b.key, .int .i64 b.op, .slice B b.values.length c'] 98)).cell? ⟨xb, xo, none⟩)) (first | exact keepG_drew _ | exact keepG_same (by assumption) | exact keepG_alloc (by assumption) _) (first | (go_at_call 100; refine (c_strings_Compare _ _ _).mono ?_; rintro e w9 ⟨rfl, rfl⟩) | (go_at_call 101; refine (c_cmp_Compare _ _ _).mono ?_; rintro e w9 ⟨rfl, rfl⟩) | (go_at_call 124; refine (c_slices_Compare a.values b.values _ _ _ _ _ (a2.now (ext_trans hq (by first | (with_reducible exact Below.refl _ _) | exact hbel (keepG_same (by assumption)).1))) (b2.now (ext_trans hq (by first | (with_reducible exact Below.refl _ _) | exact hbel (keepG_same (by assumption)).1)))).mono ?_; rintro e w9 ⟨rfl, rfl⟩) | (go_at_call 99; refine (c_cmp_Or3 (cmpS a.key b.key) (cmpI a.op b.op) (cmpL a.values b.values) _ _ 3 ?_).mono ?_; (focus ((try rw [heap_drew]); (try (refine heap_new ?_; simp)); done)); rintro e w9 ⟨rfl, rfl⟩))
  have hg := heldG_step (by assumption)
  go_wp2_with fail
  go_ret
  exact ⟨rfl, (((Gr.refl W).alloc _).alloc _).trans hg⟩
theorem swo_map {D E : Type} {lt : E → E → Bool} (h : Go.Sort.SWO lt) (f : D → E) : Go.Sort.SWO (fun x y => lt (f x) (f y)) := ⟨fun _ => h.irrefl _, fun _ _ _ => h.trans _ _ _, fun _ _ _ => h.ntrans _ _ _⟩
theorem Aside.alln {base g : Nat} {w w' : World} {L : List NeedV} (h : AllN base w L) (hs : Aside (fun b => b = g) w w') (hg : ∀ x ∈ L, ∀ q, x.blk = some q → q ≠ g) : AllN base w' L := fun x hx =>
  (h x hx).carry (fun q hq => hs.block q (World.ownsRow.lt (h x hx).2.2.2 q hq).2 (hg x hx q hq))
theorem row_blk {base base' g n c : Nat} {w : World} {L M : List NeedV} (h : AllN base w L) (hr : RowE encN 3 98 base' w M (.slice (some ⟨g, 0, none⟩) n c)) : ∀ x ∈ L, ∀ q, x.blk = some q → q ≠ g := fun x hx q hq e =>
  own_apart (h x hx).2.2.2 hr (by decide) q hq (by rw [e]; rfl)
theorem c_SortFunc_Need (L : List NeedV) (v : Value) (base : Nat) (w : World) (h : RowE encN 3 98 base w L v) (ha : AllN base w L) (hn : L.length ≤ 1048576) :
    Calls Try.prog 78 #[v, .func (.func 79) #[] #[]] w fun e w' => ∃ L' : List NeedV, e = .returned (.tuple #[]) ∧ L'.Perm L ∧ (L'.map (·.d)).Pairwise (fun a b => lessN b a = false) ∧ RowE encN 3 98 base w' L' v ∧ AllN base w' L' ∧ Aside (fun b => v.ownBlock = some b) w w' := by
  by_cases hp : 0 < L.length
  · obtain ⟨g, cap, cur, rfl, hb, hg, h1, h2, -, -⟩ := h.row encN_len hp
    let D := {x : NeedV // x ∈ L}
    let enc : D → List Value := fun x => encN x.1
    have hmap : L.attach.map (fun x : D => x.1) = L := List.attach_map_subtype_val L
    have hflat : flatE enc L.attach = flatE encN L := by
      unfold flatE
      conv => rhs; rw [← hmap, List.map_map]
      rfl
    have hR : RowE enc 3 98 base w L.attach (.slice (some ⟨g, 0, none⟩) L.length cap) := by
      unfold RowE
      rw [hflat, List.length_attach]
      exact h
    haveI : Inhabited D := ⟨⟨L[0], List.getElem_mem hp⟩⟩
    have henc : ∀ x : D, (enc x).length = 3 := fun x => rfl
    have hH := hR.holds henc (by decide) (by rw [List.length_attach]; exact hp)
    have hgb := row_blk ha h
    have eg : ∀ args w, (callFunc 79 args).run Try.prog w = .ok (.enter 79 args) w := enters_of Try.func79 (by kernel_rfl) rfl
    let cmpD : D → D → Int := fun x y => cmpN x.1.d y.1.d
    have hlt : Go.Proofs.ltOf cmpD = fun x y => lessN x.1.d y.1.d := rfl
    have hO : Go.Sort.SWO (Go.Proofs.ltOf cmpD) := by rw [hlt]; exact swo_map lt_N (fun x : D => x.1.d)
    have hcon := AnyQ.slices_SortFunc sortNeed 3 Try.isAgg98 Try.sizeOf98 enc henc (fun x => encN_one x.1) cmpD hO 79 #[] g 0 cap L.attach.toArray w eg (fun m os dk _ x y => by
      have hal := Aside.alln ha (sorted_aside (enc := enc) (sz := 3) (m := m) (d' := dk) (os := os)) hgb
      exact (x_compareNeeds x.1.d y.1.d (encN x.1) (encN y.1) _ _ _ (hal x.1 x.2).C (hal y.1 y.2).C).mono fun e w' h => h) hH (row_lt hg) (by rw [List.size_toArray, List.length_attach]; omega)
    change Calls Try.prog 78 _ _ _ at hcon
    rw [List.size_toArray, List.length_attach] at hcon
    refine hcon.mono ?_
    rintro e w' ⟨rfl, d', m, os, hP, hS, rfl⟩
    have hpm : d'.toList.Perm L.attach := by
      obtain ⟨q1, -, q3⟩ := hP
      have q2 : d'.size = L.length := by rw [q1, List.size_toArray, List.length_attach]
      have e1 : d'.extract 0 L.length = d' := by rw [← q2]; exact Array.extract_size
      have e2 : L.attach.toArray.extract 0 L.length = L.attach.toArray := by rw [show L.length = L.attach.toArray.size by simp]; exact Array.extract_size
      rw [e1, e2] at q3
      exact q3
    have hds : d'.size = L.attach.length := by rw [← hpm.length_eq, Array.length_toList]
    have hal := Aside.alln ha (sorted_aside (enc := enc) (sz := 3) (g := g) (m := m) (d' := d') (os := os)) hgb
    have hpl : (d'.toList.map (fun x : D => x.1)).Perm L := by
      have := hpm.map (fun x : D => x.1)
      rw [hmap] at this
      exact this
    refine ⟨d'.toList.map (fun x : D => x.1), rfl, hpl, ?_, ?_, fun x hx => hal x (hpl.mem_iff.1 hx), sorted_aside.mono (fun b hb => by subst hb; rfl)⟩
    · rw [List.map_map, List.pairwise_map]
      rw [hlt] at hS
      exact pair_of_sorted (lt := fun x y : D => lessN x.1.d y.1.d) (by rw [hds, List.length_attach]; exact hS)
    · have := hR.sorted (m := m) (os := os) (d' := d') henc (by decide) hds
      unfold RowE at this ⊢
      rw [show flatE encN (d'.toList.map (fun x : D => x.1)) = flatE enc d'.toList by unfold flatE; rw [List.map_map]; rfl, List.length_map]
      exact this
  · obtain rfl : L = [] := List.eq_nil_of_length_eq_zero (by omega)
    obtain ⟨A, c, rfl⟩ := h.form
    have hcon := AnyF.slices_SortFunc_none sortNeed A c (.func (.func 79) #[] #[]) w
    change Calls Try.prog 78 _ _ _ at hcon
    refine hcon.mono ?_
    rintro e w' ⟨rfl, rfl⟩
    exact ⟨[], rfl, List.Perm.refl _, List.Pairwise.nil, h, ha, Aside.refl _ _⟩
end Go.Proofs.Ytmhlnbihppojmaa
