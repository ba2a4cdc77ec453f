/- Written by wip/tools/pack.py: the texts that FnExactBracedNormal needs, without what it does not need. No conditions. -/
import Derived.Test.YtffelpdefjkeaaaGreatDoorKBrN8
import Derived.Test.YtffelpdefjkeaaaGreatDoorKBrN4
import Derived.Test.YtffelpdefjkeaaaGreatDoorKBrN2
namespace Go.Proofs.YtffelpdefjkeaaaGreatDoor
open Go.RowKit Go.Lib
/-- The place of a byte among space, tab, newline, return; -1. -/
def blnkI (b : Nat) : Int := if b = 32 then 0 else if b = 9 then 1 else if b = 10 then 2 else if b = 13 then 3 else -1
set_option maxRecDepth 1000000 in
theorem idx_blank : ∀ i : Fin 256, Lib.indexByte [32, 9, 10, 13] (UInt8.ofNat i.val) = blnkI i.val := by decide
theorem c_IndexBlank (b : Nat) (hb : b < 256) (w : World) : Calls Tryz.prog 65 #[.string { data := #[32, 9, 10, 13] }, .int .u8 b] w fun e w' => e = .returned (.int .i64 (blnkI b)) ∧ w = w' := by
  have h := c_strings_IndexByte { data := #[32, 9, 10, 13] } (UInt8.ofNat b) w
  have e1 : (UInt8.ofNat b).toNat = b := by rw [UInt8.toNat_ofNat']; exact Nat.mod_eq_of_lt hb
  rw [e1] at h
  exact h.mono (fun _ _ h => ⟨h.1.trans (congrArg (fun z => Ending.returned (Value.int .i64 z)) (idx_blank ⟨b, hb⟩)), h.2⟩)
theorem blnk_ge (b : Nat) : 0 ≤ blnkI b ↔ blankI (b : Int) = true := by
  unfold blnkI blankI
  rw [decide_eq_true_iff]
  repeat' split
  all_goals omega
theorem encSg_one (d : SignD) : ∀ v ∈ encSg d, v.oneCell' = true := by intro u hu; simp [encSg] at hu; rcases hu with rfl | rfl | rfl | rfl <;> rfl
def C_Sg (d : SignD) (cs : List Value) : Prop := cs = encSg d
theorem encSg_C (d : SignD) (es : List Value) (h : C_Sg d es) : es = encSg d := h
theorem sl_oneG {D : Type} {C : D → List Value → Prop} {enc : D → List Value} {sz : Nat} (hk : ∀ d, (enc d).length = sz) (w : World) (d : D) (hC : C d (enc d)) (ty : TypeId) (cs : Array Value) (hc : cs = (enc d).toArray) {B : Nat} (hB : B = w.heap.size) :
    SlOf C sz w.heap.size (w.alloc (.cells cs ty)).heap.size (w.alloc (.cells cs ty)) [d] (.slice (some ⟨B, 0, none⟩) 1 1) := by
  subst hB
  exact sl_one hk w d hC ty cs hc
/-- Appending a row of structs in a region of one order. -/
theorem wpList_append_rows {P : Program} {D : Type} {enc : D → List Value} {C : D → List Value → Prop} {w : World} {ops : Array Oper} {rest : List Oper} {o : Oper} {a : Act} {Q : Exit → Act → World → Prop} (hgd : o.guard = none) (s x : Operand) (t : TypeId)
    (ho : o.op = .call { callee := .builtin .append, args := #[s, x], argTypes := #[t, t] }) (base : Nat) (e : TypeId) (i : TypeInfo) (z : Value) (sz bytes : Nat) (ht : P.underlying t = some (.slice e)) (hi : P.info? e = some i) (hz : i.zero = some z)
    (hsize : i.size = sz) (hby : i.bytes = bytes) (hzs : z.cells.size = sz) (hsz : 0 < sz) (hk : ∀ d, (enc d).length = sz) (h1 : ∀ d, ∀ v ∈ enc d, v.oneCell' = true) (hC : ∀ d es, C d es → es = enc d) (v : Value) (n : Nat) (xs : List D) (hs : a.eval s = v) (hn : xs.length = n) (hown : RowE enc sz e base w xs v)
    (l : List D) (A : Option Addr) (m c lo hi' : Nat) (hx : a.eval x = .slice A m c) (hm : l.length = m) (hl : SlOf C sz lo hi' w l (.slice A m c)) (h63 : n + m ≤ maxLen) (hbytes : (n + m) * bytes ≤ 140737488355328) (hbase : base ≤ w.heap.size)
    (h : ∀ v' w', RowE enc sz e base w' (xs ++ l) v' → w.grownBy w' v.ownBlock → (v'.ownBlock = v.ownBlock ∨ v'.ownBlock = some w.heap.size) → wpList P ops Q rest (a.put o.dst v') w') :
    wpList P ops Q (o :: rest) a w := by
  obtain ⟨v', w', hr, h2, h3, h4⟩ := run_append_rows (P := P) (enc := enc) (C := C) w t o.type base e i z sz bytes ht hi hz hsize hby hzs hsz hk h1 hC v n xs hn hown l A m c lo hi' hm hl h63 hbytes hbase
  exact wpList_append_of hgd s x t ho v _ v' w' hs hx hr (h v' w' h2 h3 h4)
theorem textF_zero {s : ByteArray} (h : (textF s).code = 0) : s.size ≤ 20000 := by
  unfold textF at h
  split at h
  · cases h
  · omega
set_option maxHeartbeats 8000000 in
set_option maxRecDepth 20000 in
theorem c_impl_SignsOf (s : ByteArray) (w : World) (hs : s.size ≤ 1048576) (hV : CTab w) (hT : Tabs w) (hE : ErrR w) :
    Calls Tryz.prog 33 #[.string s] w fun e w' => ∃ (A : Option Addr) (c : Nat), e = .returned (.tuple #[.slice A (signsF s).1.length c, .agg (fltC (signsF s).2)]) ∧ SignsE w.heap.size w' (signsF s).1 (.slice A (signsF s).1.length c) ∧ Below w.heap.size w w' := by
  obtain ⟨i0, hi, hz0, hz1, hz2⟩ := info_parts (show (Tryz.prog.info? 54).map (fun i => (i.zero, i.size, i.bytes)) = some (some (.agg #[.int .i64 0, .string ⟨#[]⟩, .int .i64 0, .int .i64 0]), 4, 40) from by kernel_rfl)
  have HVT := Lib.hid (And.intro hV (And.intro hT hE))
  clear hV hT hE
  obtain ⟨f, hf⟩ : ∃ f, f = textF s := ⟨_, rfl⟩
  obtain ⟨fc, fa, fp⟩ := f
  have HTf := Lib.hid hf
  clear hf
  by_cases hc : fc = 0
  · obtain rfl := hc
    have hl2 : s.size ≤ 20000 := textF_zero (by rw [← HTf.out])
    have HF := Lib.hid (show signsF s = signsG s 0 [] by unfold signsF; rw [if_pos (by rw [← HTf.out])])
    go_enter Tryz.func33, Tryz.ntmps33
    go_wp2_with fail
    refine (c_impl_textFault s _ hs (HVT.out.2.1.below bel)).mono ?_
    rintro e w1 ⟨rfl, hb⟩
    rw [← HTf.out]
    simp only [fltC]
    have hbox : w1.heap[w.heap.size]? = some (.cells #[.int .i64 0, .int .i64 0, .string ⟨#[]⟩] 29 (0, 0)) := (hb.block w.heap.size (by simp)).trans (heap_at (by simp))
    have l1 := row_lt hbox
    have HBox1 := Lib.hid hbox
    have hB1 : Below w.heap.size w w1 := bel
    clear hbox
    go_wp2_with fail
    go_loopw [5, 6] (fun s5 s6 wr => ∃ (i n : Nat) (L : List SignD) (A : Option Addr) (c : Nat), i ≤ s.size ∧ s6 = .int .i64 i ∧ n = L.length ∧ s5 = .slice A n c ∧ n ≤ i ∧ signsF s = signsG s i L ∧ SignsE (w.heap.size + 1) wr L (.slice A n c) ∧ wr.heap[w.heap.size]? = some (.cells #[.int .i64 0, .int .i64 0, .string ⟨#[]⟩] 29 (0, 0)) ∧ Below w.heap.size w wr) (fun _ s6 _ => s.size - (Lib.intOf s6).toNat)
    case atStart => exact ⟨0, 0, [], _, _, by omega, rfl, rfl, rfl, by omega, HF.out, own_empty (by simp) (by simp; omega), ((bel : Below w1.heap.size w1 _).block w.heap.size l1).trans HBox1.out, bel⟩
    case round =>
      obtain ⟨i, n, L, A, c, hil, rfl, hn, rfl, hni, hq, hR, hbox, hbr⟩ := hrel
      have HR := Lib.hid hR
      have HG := Lib.hid hq
      have HBox := Lib.hid hbox
      have HBr := Lib.hid hbr
      have HN := Lib.hid hn
      have lb := row_lt hbox
      clear hR hq hbox hn
      by_cases hlt : (i : Int) < s.size
      · have hii : i < s.size := by omega
        have h1 : decide ((s.size : Int) ≤ i) = false := decide_eq_false (by omega)
        have h2 : decide (s.size ≤ i) = false := decide_eq_false (by omega)
        have h3 : decide ((i : Int) < 0) = false := decide_eq_false (by omega)
        have hzi : (0 : Int) ≤ i := by omega
        obtain ⟨b, hb⟩ : ∃ b : Nat, b = (s.get! i).toNat := ⟨_, rfl⟩
        have hx : (s[i]'hii).toNat = b := by rw [hb]; exact get_byte s i hii
        have hby : byteI s i = b := by unfold byteI; rw [hb]
        have hb2 : b < 256 := by have := (s.get! i).toNat_lt; omega
        obtain ⟨z, hz⟩ : ∃ z, z = blnkI b := ⟨_, rfl⟩
        have hbl := blnk_ge b
        rw [← hz, ← hby] at hbl
        have HZ := Lib.hid hz
        have HBl := Lib.hid hbl
        clear hb hby hz hbl
        by_cases z0 : 0 ≤ z
        · have HE := Lib.hid (show signsF s = signsG s (i + 1) L by rw [HG.out, signsG_blank hii (HBl.out.1 z0)])
          go_wp2_with (go_at_call 65; refine (c_IndexBlank b hb2 _).mono ?_; rintro e w9 ⟨rfl, rfl⟩; rw [← HZ.out])
          go_roundw
          case rel => exact ⟨i + 1, n, L, A, c, by omega, by go_num, HN.out, rfl, by omega, HE.out, HR.out, HBox.out, HBr.out⟩
          case measure => simp [Lib.intOf]; omega
        · have z1 : decide (0 ≤ z) = false := decide_eq_false z0
          have hnb : ¬ blankI (byteI s i) = true := fun e => z0 (HBl.out.2 e)
          obtain ⟨x, hxx⟩ : ∃ x, x = (signB s i).1 := ⟨_, rfl⟩
          obtain ⟨q, hqq⟩ : ∃ q, q = (signB s i).2 := ⟨_, rfl⟩
          have hqn := signB_next s i
          rw [← hqq] at hqn
          obtain ⟨xk, xt, xn, xp⟩ := x
          have HXQ := Lib.hid (And.intro hxx hqq)
          by_cases q0 : q < 0
          · have HE := Lib.hid (show signsF s = ([], ⟨3, i, ⟨#[]⟩⟩) by rw [HG.out, signsG_bad hii hnb (by rw [← hqq]; exact q0)])
            clear hxx hqq hqn hnb z0
            go_wp2_with (go_at_call 65; refine (c_IndexBlank b hb2 _).mono ?_; rintro e w9 ⟨rfl, rfl⟩; rw [← HZ.out])
            refine (c_impl_SignAt s i _ hs (by omega) (HVT.out.1.below HBr.out) (HVT.out.2.1.below HBr.out) (HVT.out.2.2.below HBr.out)).mono ?_
            rintro e w2 ⟨rfl, hb2'⟩
            rw [← HXQ.out.1, ← HXQ.out.2]
            simp only [signC]
            have B2 : Below w.heap.size w w2 := HBr.out.trans (hb2'.mono HBr.out.size)
            have hbox2 := (hb2'.block _ lb).trans HBox.out
            obtain ⟨a0, a1, a2, af⟩ := row3 hbox2
            have l2 := row_lt hbox2
            clear hbox2
            go_wp2_with fail
            exact bodyPost_ret (v := .tuple #[.slice none 0 0, .agg #[.int .i64 3, .int .i64 i, .string ⟨#[]⟩]]) (by simp only [results, Tryz.results33]; go_simp) rfl ⟨none, 0, by rw [HE.out]; rfl, by rw [HE.out]; exact World.ownsRow_nil _ _ _ _, bel⟩
          · have HE := Lib.hid (show signsF s = signsG s q.toNat (L ++ [⟨xk, xt, xn, xp⟩]) by rw [HG.out, signsG_sign hii hnb (by rw [← hqq]; exact q0), hxx, hqq])
            obtain ⟨p, rfl⟩ : ∃ p : Nat, q = p := ⟨q.toNat, by omega⟩
            have d0 : decide ((p : Int) < 0) = false := decide_eq_false q0
            have hip : i < p := by omega
            have hps : p ≤ s.size := by omega
            rw [Int.toNat_natCast] at HE
            clear hxx hqq hqn hnb z0 q0
            go_wp2_with (go_at_call 65; refine (c_IndexBlank b hb2 _).mono ?_; rintro e w9 ⟨rfl, rfl⟩; rw [← HZ.out])
            refine (c_impl_SignAt s i _ hs (by omega) (HVT.out.1.below HBr.out) (HVT.out.2.1.below HBr.out) (HVT.out.2.2.below HBr.out)).mono ?_
            rintro e w2 ⟨rfl, hb2'⟩
            rw [← HXQ.out.1, ← HXQ.out.2]
            simp only [signC]
            have B2 : Below w.heap.size w w2 := HBr.out.trans (hb2'.mono HBr.out.size)
            have l2 : w.heap.size < w2.heap.size := Nat.lt_of_lt_of_le lb hb2'.size
            have hR2 := HR.out.below hb2'
            have HR2 := Lib.hid hR2
            clear hR2
            go_wp2_with (at_builtin; go_loud (refine wpList_append_rows (C := C_Sg) rfl (.tmp 37) (.tmp 39) 45 rfl (w.heap.size + 1) 54 i0 (.agg #[.int .i64 0, .string ⟨#[]⟩, .int .i64 0, .int .i64 0]) 4 40 Tryz.underlying45 hi hz0 hz1 hz2 rfl (by decide) encSg_len encSg_one encSg_C _ n L rfl HN.out.symm (HR2.out.below bel) [⟨xk, xt, xn, xp⟩] (some ⟨_, 0, none⟩) 1 1 _ _ rfl rfl (sl_oneG encSg_len _ _ rfl 54 _ rfl (by simp)) (by unfold maxLen; omega) (by omega) (by simp; omega) ?_))
            intro v' w3 hR3 hg3 ha3
            obtain ⟨A3, c3, rfl⟩ := hR3.form
            have hb3 : Below (w.heap.size + 1) w2 w3 := Below.grown ((bel : Below w2.heap.size w2 _).mono l2) hg3 (by simp; omega) (fun q hq => (World.ownsRow.lt HR2.out q hq).1)
            have Hb3 := Lib.hid hb3
            have HR3 := Lib.hid hR3
            have hln : (L ++ [(⟨xk, xt, xn, xp⟩ : SignD)]).length = n + 1 := by rw [List.length_append, ← HN.out]; rfl
            have HL := Lib.hid hln
            clear hR3 hg3 ha3 hb3 hln
            go_wp2_with fail
            go_roundw
            case rel => exact ⟨p, n + 1, L ++ [⟨xk, xt, xn, xp⟩], A3, c3, hps, rfl, HL.out.symm, by rw [HL.out], by omega, HE.out, by rw [← HL.out]; exact HR3.out, ((Hb3.out.block w.heap.size (by omega)).trans (hb2'.block _ lb)).trans HBox.out, B2.trans (Hb3.out.mono (by omega))⟩
            case measure => simp [Lib.intOf]; omega
      · have HE := Lib.hid (show signsF s = (L, flt0) by rw [HG.out, signsG_end (by omega)])
        obtain ⟨a0, a1, a2, af⟩ := row3 HBox.out
        go_wp2_with fail
        exact bodyPost_ret (v := .tuple #[.slice A n c, .agg #[.int .i64 0, .int .i64 0, .string ⟨#[]⟩]]) (by simp only [results, Tryz.results33]; go_simp) rfl ⟨A, c, by rw [HE.out, HN.out]; rfl, by
          rw [HE.out]
          show SignsE _ _ L (.slice A L.length c)
          rw [← HN.out]
          exact (HR.out.less (Nat.le_succ _)).carry (fun q hq => Aside.block (S := fun b => b = w.heap.size) (w := wr) (by repeat (first | (with_reducible exact Aside.refl _ _) | ((with_reducible refine aside_set ?_ ?_); (focus (simp; done))) | (with_reducible refine aside_alloc ?_))) q (World.ownsRow.lt HR.out q hq).2 (by have := (World.ownsRow.lt HR.out q hq).1; omega)), bel⟩
  · have d1 : (fc == 0) = false := beq_eq_false_iff_ne.2 hc
    have d2 : (fc != 0) = true := bne_iff_ne.2 hc
    have HF := Lib.hid (show signsF s = ([], ⟨fc, fa, fp⟩) by unfold signsF; rw [if_neg (by rw [← HTf.out]; exact hc), HTf.out])
    clear hc
    go_enter Tryz.func33, Tryz.ntmps33
    go_wp2_with fail
    refine (c_impl_textFault s _ hs (HVT.out.2.1.below bel)).mono ?_
    rintro e w1 ⟨rfl, hb⟩
    rw [← HTf.out]
    simp only [fltC]
    have hbox : w1.heap[w.heap.size]? = some (.cells #[.int .i64 0, .int .i64 0, .string ⟨#[]⟩] 29 (0, 0)) := (hb.block w.heap.size (by simp)).trans (heap_at (by simp))
    have l1 := row_lt hbox
    have hB1 : Below w.heap.size w w1 := bel
    obtain ⟨a0, a1, a2, af⟩ := row3 hbox
    clear hbox
    go_wp2_with fail
    go_region_law (fail)
    all_goals
      (try go_wp2_with fail)
      exact bodyPost_ret (v := .tuple #[.slice none 0 0, .agg #[.int .i64 fc, .int .i64 fa, .string fp]]) (by simp only [results, Tryz.results33]; go_simp) rfl ⟨none, 0, by rw [HF.out]; rfl, by rw [HF.out]; exact World.ownsRow_nil _ _ _ _, bel⟩
end Go.Proofs.YtffelpdefjkeaaaGreatDoor
namespace Go.Proofs.YtffelpdefjkeaaaGreatDoor
open Go.RowKit Go.Lib
def rdC (A : Option Addr) (n c : Nat) (p : Nat) (E : Int) (m : Nat) (f : Flt) : Array Value := #[.slice A n c, .int .i64 p, .int .i64 E, .int .i64 m, .int .i64 f.code, .int .i64 f.at', .string f.path]
/-- The reader's box b: the signs L, at sign p, the text's end E, m values counted, the fault f. -/
def RdAt (L : List SignD) (E : Int) (b : Nat) (p m : Nat) (f : Flt) (w : World) : Prop :=
  ∃ (A : Option Addr) (c : Nat), w.heap[b]? = some (.cells (rdC A L.length c p E m f) 56 (0, 0)) ∧ SignsE 0 w L (.slice A L.length c) ∧ ∀ g, (Value.slice A L.length c).ownBlock = some g → g < b
theorem RdAt.lt {L : List SignD} {E : Int} {b p m : Nat} {f : Flt} {w : World} (h : RdAt L E b p m f w) : b < w.heap.size := by
  obtain ⟨A, c, h1, -, -⟩ := h
  exact row_lt h1
theorem RdAt.below {L : List SignD} {E : Int} {b p m : Nat} {f : Flt} {w w' : World} (h : RdAt L E b p m f w) (hb : Below w.heap.size w w') : RdAt L E b p m f w' := by
  obtain ⟨A, c, h1, h2, h3⟩ := h
  exact ⟨A, c, (hb.block b (row_lt h1)).trans h1, h2.below hb, h3⟩
theorem row7r {w : World} {b : Nat} {a0 a1 a2 a3 a4 a5 a6 : Value} {e : TypeId} (hr : w.heap[b]? = some (.cells #[a0, a1, a2, a3, a4, a5, a6] e (0, 0))) :
    w.cell? ⟨b, 0, none⟩ = some a0 ∧ w.cell? ⟨b, 1, none⟩ = some a1 ∧ w.cell? ⟨b, 2, none⟩ = some a2 ∧ w.cell? ⟨b, 3, none⟩ = some a3 ∧ w.cell? ⟨b, 4, none⟩ = some a4 ∧ w.cell? ⟨b, 5, none⟩ = some a5 ∧ w.cell? ⟨b, 6, none⟩ = some a6 ∧ ∀ o, w.frozen? ⟨b, o, none⟩ = false :=
  ⟨by rw [cell_of_row _ _ _ _ _ _ hr]; rfl, by rw [cell_of_row _ _ _ _ _ _ hr]; rfl, by rw [cell_of_row _ _ _ _ _ _ hr]; rfl, by rw [cell_of_row _ _ _ _ _ _ hr]; rfl, by rw [cell_of_row _ _ _ _ _ _ hr]; rfl, by rw [cell_of_row _ _ _ _ _ _ hr]; rfl, by rw [cell_of_row _ _ _ _ _ _ hr]; rfl, fun o => frozen_row hr o⟩
/-- The sign at p lies in the row. -/
theorem sign_row {w : World} {L : List SignD} {A : Option Addr} {c p : Nat} (h : SignsE 0 w L (.slice A L.length c)) (hp : p < L.length) :
    ∃ (g : Nat) (x : SignD), A = some ⟨g, 0, none⟩ ∧ L[p]? = some x ∧ L.length ≤ c ∧ g < w.heap.size ∧ w.cell? ⟨g, p * 4, none⟩ = some (.int .i64 x.kind) ∧ w.cell? ⟨g, p * 4 + 1, none⟩ = some (.string x.text) ∧ w.cell? ⟨g, p * 4 + 2, none⟩ = some (.int .i64 x.num) ∧ w.cell? ⟨g, p * 4 + 3, none⟩ = some (.int .i64 x.at') := by
  obtain ⟨g, cap, cur, hv, -, hg, h1, h2, -, h4⟩ := RowE.row encSg_len h (by omega)
  simp only [Value.slice.injEq] at hv
  obtain ⟨rfl, -, rfl⟩ := hv
  obtain ⟨x, hx⟩ : ∃ x, L[p]? = some x := ⟨L[p], List.getElem?_eq_getElem hp⟩
  exact ⟨g, x, rfl, hx, h1, row_lt hg, by rw [cell_of_row _ g _ cur _ _ hg]; exact h4 p x hx 0 (by decide), by rw [cell_of_row _ g _ cur _ _ hg]; exact h4 p x hx 1 (by decide), by rw [cell_of_row _ g _ cur _ _ hg]; exact h4 p x hx 2 (by decide), by rw [cell_of_row _ g _ cur _ _ hg]; exact h4 p x hx 3 (by decide)⟩
set_option maxHeartbeats 4000000 in
set_option maxRecDepth 20000 in
theorem c_rd_kind (L : List SignD) (E : Int) (b p m : Nat) (f : Flt) (w : World) (hp : p ≤ 1048577) (h : RdAt L E b p m f w) :
    Calls Tryz.prog 67 #[.pointer (some ⟨b, 0, none⟩)] w fun e w' => e = .returned (.int .i64 (kindAt L p)) ∧ Below w.heap.size w w' := by
  obtain ⟨A, c, hbox, hrow, hne⟩ := h
  have HB := Lib.hid hbox
  unfold rdC at hbox
  obtain ⟨a0, a1, a2, a3, a4, a5, a6, af⟩ := row7r hbox
  have l0 := row_lt hbox
  clear hbox
  by_cases hlt : (p : Int) < L.length
  · have hz0 : (0 : Int) ≤ p := by omega
    have HRow := Lib.hid hrow
    clear hrow hne
    go_enter Tryz.func67, Tryz.ntmps67
    go_wp2_with fail
    refine wp_region_det 10 (by kernel_rfl) (by kernel_rfl) (by decide) ?_
    apply Exists.intro
    refine And.intro ?_ ?_
    · (intro W hW; (try simp only [Act.put, List.setIfInBounds_toArray, List.set_cons_zero, List.set_cons_succ]); first | (go_wp2_with fail; exact ⟨rfl, rfl, Below.refl _ _⟩))
    apply Exists.intro
    refine And.intro ?_ ?_
    · (intro W hW; (try simp only [Act.put, List.setIfInBounds_toArray, List.set_cons_zero, List.set_cons_succ]); first | (go_wp2_with fail; exact ⟨rfl, rfl, Below.refl _ _⟩))
    apply Exists.intro
    refine And.intro ?_ ?_
    · (intro W hW; (try simp only [Act.put, List.setIfInBounds_toArray, List.set_cons_zero, List.set_cons_succ]); first | (go_wp2_with fail; exact ⟨rfl, rfl, Below.refl _ _⟩))
    apply Exists.intro
    refine And.intro ?_ ?_
    · (intro W hW; (try simp only [Act.put, List.setIfInBounds_toArray, List.set_cons_zero, List.set_cons_succ]); first | (obtain ⟨hcW, hfW⟩ := bcell hW; have hsW := hW.size; (try simp at hsW); (try have hsW0 := lt_of_succ_le hsW); (try (have hsW1 := lt_pred hsW; (try (have hsW2 := lt_pred hsW1)))); go_wp2_with fail; exact ⟨rfl, rfl, Below.refl _ _⟩))
    apply Exists.intro
    refine And.intro ?_ ?_
    · (intro W hW; (try simp only [Act.put, List.setIfInBounds_toArray, List.set_cons_zero, List.set_cons_succ]); first | (go_wp2_with fail; exact ⟨rfl, rfl, Below.refl _ _⟩))
    apply Exists.intro
    refine And.intro ?_ ?_
    · (intro W hW; (try simp only [Act.put, List.setIfInBounds_toArray, List.set_cons_zero, List.set_cons_succ]); first | (go_wp2_with fail; exact ⟨rfl, rfl, Below.refl _ _⟩))
    apply Exists.intro
    refine And.intro ?_ ?_
    · (intro W hW; (try simp only [Act.put, List.setIfInBounds_toArray, List.set_cons_zero, List.set_cons_succ]); first | (go_wp2_with fail; exact ⟨rfl, rfl, Below.refl _ _⟩))
    apply Exists.intro
    refine And.intro ?_ ?_
    · (intro W hW; (try simp only [Act.put, List.setIfInBounds_toArray, List.set_cons_zero, List.set_cons_succ]); first | (obtain ⟨hcW, hfW⟩ := bcell hW; have hsW := hW.size; (try simp at hsW); (try have hsW0 := lt_of_succ_le hsW); (try (have hsW1 := lt_pred hsW; (try (have hsW2 := lt_pred hsW1)))); go_wp2_with fail; exact ⟨rfl, rfl, Below.refl _ _⟩))
    apply Exists.intro
    refine And.intro ?_ ?_
    · (intro W hW; (try simp only [Act.put, List.setIfInBounds_toArray, List.set_cons_zero, List.set_cons_succ]); first | (go_wp2_with fail; exact ⟨rfl, rfl, Below.refl _ _⟩))
    apply Exists.intro
    refine And.intro ?_ ?_
    · (intro W hW; (try simp only [Act.put, List.setIfInBounds_toArray, List.set_cons_zero, List.set_cons_succ]); first | (go_wp2_with fail; exact ⟨rfl, rfl, Below.refl _ _⟩))
    intro wq hbwq
    (try simp only [Act.put, List.setIfInBounds_toArray, List.set_cons_zero, List.set_cons_succ])
    (try simp only [List.drop_succ_cons, List.drop_nil])
    have hb1 := (hbwq.block b l0).trans HB.out
    clear a0 a1 a2 a3 a4 a5 a6 af
    obtain ⟨a0, a1, a2, a3, a4, a5, a6, af⟩ := row7r (show wq.heap[b]? = some (.cells #[.slice A L.length c, .int .i64 p, .int .i64 E, .int .i64 m, .int .i64 f.code, .int .i64 f.at', .string f.path] 56 (0, 0)) from hb1)
    have l1 := row_lt hb1
    obtain ⟨g, x, rfl, hx, hlc, lg, d0, d1, d2, d3⟩ := sign_row (p := p) (HRow.out.below hbwq) (by omega)
    have HK := Lib.hid (show kindAt L p = x.kind by unfold kindAt; rw [hx])
    clear hx hb1
    go_wp2_with fail
    refine wp_region_det 11 (by kernel_rfl) (by kernel_rfl) (by decide) ?_
    apply Exists.intro
    refine And.intro ?_ ?_
    · (intro W hW; (try simp only [Act.put, List.setIfInBounds_toArray, List.set_cons_zero, List.set_cons_succ]); first | (go_wp2_with fail; exact ⟨rfl, rfl, Below.refl _ _⟩))
    apply Exists.intro
    refine And.intro ?_ ?_
    · (intro W hW; (try simp only [Act.put, List.setIfInBounds_toArray, List.set_cons_zero, List.set_cons_succ]); first | (go_wp2_with fail; exact ⟨rfl, rfl, Below.refl _ _⟩))
    apply Exists.intro
    refine And.intro ?_ ?_
    · (intro W hW; (try simp only [Act.put, List.setIfInBounds_toArray, List.set_cons_zero, List.set_cons_succ]); first | (go_wp2_with fail; exact ⟨rfl, rfl, Below.refl _ _⟩))
    apply Exists.intro
    refine And.intro ?_ ?_
    · (intro W hW; (try simp only [Act.put, List.setIfInBounds_toArray, List.set_cons_zero, List.set_cons_succ]); first | (obtain ⟨hcW, hfW⟩ := bcell hW; have hsW := hW.size; (try simp at hsW); (try have hsW0 := lt_of_succ_le hsW); (try (have hsW1 := lt_pred hsW; (try (have hsW2 := lt_pred hsW1)))); go_wp2_with fail; exact ⟨rfl, rfl, Below.refl _ _⟩))
    apply Exists.intro
    refine And.intro ?_ ?_
    · (intro W hW; (try simp only [Act.put, List.setIfInBounds_toArray, List.set_cons_zero, List.set_cons_succ]); first | (go_wp2_with fail; exact ⟨rfl, rfl, Below.refl _ _⟩))
    apply Exists.intro
    refine And.intro ?_ ?_
    · (intro W hW; (try simp only [Act.put, List.setIfInBounds_toArray, List.set_cons_zero, List.set_cons_succ]); first | (go_wp2_with fail; exact ⟨rfl, rfl, Below.refl _ _⟩))
    apply Exists.intro
    refine And.intro ?_ ?_
    · (intro W hW; (try simp only [Act.put, List.setIfInBounds_toArray, List.set_cons_zero, List.set_cons_succ]); first | (go_wp2_with fail; exact ⟨rfl, rfl, Below.refl _ _⟩))
    apply Exists.intro
    refine And.intro ?_ ?_
    · (intro W hW; (try simp only [Act.put, List.setIfInBounds_toArray, List.set_cons_zero, List.set_cons_succ]); first | (obtain ⟨hcW, hfW⟩ := bcell hW; have hsW := hW.size; (try simp at hsW); (try have hsW0 := lt_of_succ_le hsW); (try (have hsW1 := lt_pred hsW; (try (have hsW2 := lt_pred hsW1)))); go_wp2_with fail; exact ⟨rfl, rfl, Below.refl _ _⟩))
    apply Exists.intro
    refine And.intro ?_ ?_
    · (intro W hW; (try simp only [Act.put, List.setIfInBounds_toArray, List.set_cons_zero, List.set_cons_succ]); first | (go_wp2_with fail; exact ⟨rfl, rfl, Below.refl _ _⟩))
    apply Exists.intro
    refine And.intro ?_ ?_
    · (intro W hW; (try simp only [Act.put, List.setIfInBounds_toArray, List.set_cons_zero, List.set_cons_succ]); first | (go_wp2_with fail; exact ⟨rfl, rfl, Below.refl _ _⟩))
    apply Exists.intro
    refine And.intro ?_ ?_
    · (intro W hW; (try simp only [Act.put, List.setIfInBounds_toArray, List.set_cons_zero, List.set_cons_succ]); first | (obtain ⟨hcW, hfW⟩ := bcell hW; have hsW := hW.size; (try simp at hsW); (try have hsW0 := lt_of_succ_le hsW); (try (have hsW1 := lt_pred hsW; (try (have hsW2 := lt_pred hsW1)))); go_wp2_with fail; exact ⟨rfl, rfl, Below.refl _ _⟩))
    intro wr hbwr
    (try simp only [Act.put, List.setIfInBounds_toArray, List.set_cons_zero, List.set_cons_succ])
    (try simp only [List.drop_succ_cons, List.drop_zero])
    go_wp2_with fail
    exact bodyPost_ret (v := .int .i64 x.kind) (by simp only [results, Tryz.results67]; go_simp) rfl ⟨by rw [HK.out], bel⟩
  · have HK := Lib.hid (show kindAt L p = 0 by unfold kindAt; rw [List.getElem?_eq_none (by omega)])
    clear hrow hne
    go_enter Tryz.func67, Tryz.ntmps67
    go_wp2_with fail
    refine wp_region_det 10 (by kernel_rfl) (by kernel_rfl) (by decide) ?_
    apply Exists.intro
    refine And.intro ?_ ?_
    · (intro W hW; (try simp only [Act.put, List.setIfInBounds_toArray, List.set_cons_zero, List.set_cons_succ]); first | (go_wp2_with fail; exact ⟨rfl, rfl, Below.refl _ _⟩))
    apply Exists.intro
    refine And.intro ?_ ?_
    · (intro W hW; (try simp only [Act.put, List.setIfInBounds_toArray, List.set_cons_zero, List.set_cons_succ]); first | (go_wp2_with fail; exact ⟨rfl, rfl, Below.refl _ _⟩))
    apply Exists.intro
    refine And.intro ?_ ?_
    · (intro W hW; (try simp only [Act.put, List.setIfInBounds_toArray, List.set_cons_zero, List.set_cons_succ]); first | (go_wp2_with fail; exact ⟨rfl, rfl, Below.refl _ _⟩))
    apply Exists.intro
    refine And.intro ?_ ?_
    · (intro W hW; (try simp only [Act.put, List.setIfInBounds_toArray, List.set_cons_zero, List.set_cons_succ]); first | (obtain ⟨hcW, hfW⟩ := bcell hW; have hsW := hW.size; (try simp at hsW); (try have hsW0 := lt_of_succ_le hsW); (try (have hsW1 := lt_pred hsW; (try (have hsW2 := lt_pred hsW1)))); go_wp2_with fail; exact ⟨rfl, rfl, Below.refl _ _⟩))
    apply Exists.intro
    refine And.intro ?_ ?_
    · (intro W hW; (try simp only [Act.put, List.setIfInBounds_toArray, List.set_cons_zero, List.set_cons_succ]); first | (go_wp2_with fail; exact ⟨rfl, rfl, Below.refl _ _⟩))
    apply Exists.intro
    refine And.intro ?_ ?_
    · (intro W hW; (try simp only [Act.put, List.setIfInBounds_toArray, List.set_cons_zero, List.set_cons_succ]); first | (go_wp2_with fail; exact ⟨rfl, rfl, Below.refl _ _⟩))
    apply Exists.intro
    refine And.intro ?_ ?_
    · (intro W hW; (try simp only [Act.put, List.setIfInBounds_toArray, List.set_cons_zero, List.set_cons_succ]); first | (go_wp2_with fail; exact ⟨rfl, rfl, Below.refl _ _⟩))
    apply Exists.intro
    refine And.intro ?_ ?_
    · (intro W hW; (try simp only [Act.put, List.setIfInBounds_toArray, List.set_cons_zero, List.set_cons_succ]); first | (obtain ⟨hcW, hfW⟩ := bcell hW; have hsW := hW.size; (try simp at hsW); (try have hsW0 := lt_of_succ_le hsW); (try (have hsW1 := lt_pred hsW; (try (have hsW2 := lt_pred hsW1)))); go_wp2_with fail; exact ⟨rfl, rfl, Below.refl _ _⟩))
    apply Exists.intro
    refine And.intro ?_ ?_
    · (intro W hW; (try simp only [Act.put, List.setIfInBounds_toArray, List.set_cons_zero, List.set_cons_succ]); first | (go_wp2_with fail; exact ⟨rfl, rfl, Below.refl _ _⟩))
    apply Exists.intro
    refine And.intro ?_ ?_
    · (intro W hW; (try simp only [Act.put, List.setIfInBounds_toArray, List.set_cons_zero, List.set_cons_succ]); first | (go_wp2_with fail; exact ⟨rfl, rfl, Below.refl _ _⟩))
    intro wq hbwq
    (try simp only [Act.put, List.setIfInBounds_toArray, List.set_cons_zero, List.set_cons_succ])
    (try simp only [List.drop_succ_cons, List.drop_nil])
    go_wp2_with fail
    exact bodyPost_ret (v := .int .i64 0) (by simp only [results, Tryz.results67]; go_simp) rfl ⟨by rw [HK.out], bel⟩
theorem RdAt.poke {L : List SignD} {E : Int} {b p m p' m' : Nat} {f f' : Flt} {w w' : World} (h : RdAt L E b p m f w) (hF : Aside (fun q => q = b) w w') (hset : ∀ A c, w.heap[b]? = some (.cells (rdC A L.length c p E m f) 56 (0, 0)) → w'.heap[b]? = some (.cells (rdC A L.length c p' E m' f') 56 (0, 0))) : RdAt L E b p' m' f' w' := by
  obtain ⟨A, c, h1, h2, h3⟩ := h
  exact ⟨A, c, hset A c h1, h2.carry (fun q hq => hF.block q (World.ownsRow.lt h2 q hq).2 (fun e => absurd (h3 q hq) (by omega))), h3⟩
theorem RdAt.past {L : List SignD} {E : Int} {b p m : Nat} {f : Flt} {w w' : World} {S : Nat → Prop} (h : RdAt L E b p m f w) (hF : Aside S w w') (hS : ∀ q, S q → b < q) : RdAt L E b p m f w' := by
  obtain ⟨A, c, h1, h2, h3⟩ := h
  exact ⟨A, c, (hF.block b (row_lt h1) (fun h => absurd (hS b h) (Nat.lt_irrefl _))).trans h1, h2.carry (fun q hq => hF.block q (World.ownsRow.lt h2 q hq).2 (fun hs => by have := hS q hs; have := h3 q hq; omega)), h3⟩
/-- Storing the place. -/
theorem set7_1 {w : World} {b : Nat} {a0 a1 a2 a3 a4 a5 a6 u : Value} {e : TypeId} (h : w.heap[b]? = some (.cells #[a0, a1, a2, a3, a4, a5, a6] e (0, 0))) : (w.setCell ⟨b, 1, none⟩ u).heap[b]? = some (.cells #[a0, u, a2, a3, a4, a5, a6] e (0, 0)) := heap_setCell_same w b 1 _ _ u h
theorem set7_4 {w : World} {b : Nat} {a0 a1 a2 a3 a4 a5 a6 u : Value} {e : TypeId} (h : w.heap[b]? = some (.cells #[a0, a1, a2, a3, a4, a5, a6] e (0, 0))) : (w.setCell ⟨b, 4, none⟩ u).heap[b]? = some (.cells #[a0, a1, a2, a3, u, a5, a6] e (0, 0)) := heap_setCell_same w b 4 _ _ u h
theorem set7_5 {w : World} {b : Nat} {a0 a1 a2 a3 a4 a5 a6 u : Value} {e : TypeId} (h : w.heap[b]? = some (.cells #[a0, a1, a2, a3, a4, a5, a6] e (0, 0))) : (w.setCell ⟨b, 5, none⟩ u).heap[b]? = some (.cells #[a0, a1, a2, a3, a4, u, a6] e (0, 0)) := heap_setCell_same w b 5 _ _ u h
theorem set7_6 {w : World} {b : Nat} {a0 a1 a2 a3 a4 a5 a6 u : Value} {e : TypeId} (h : w.heap[b]? = some (.cells #[a0, a1, a2, a3, a4, a5, a6] e (0, 0))) : (w.setCell ⟨b, 6, none⟩ u).heap[b]? = some (.cells #[a0, a1, a2, a3, a4, a5, u] e (0, 0)) := heap_setCell_same w b 6 _ _ u h
set_option maxHeartbeats 4000000 in
set_option maxRecDepth 20000 in
theorem c_rd_skip_no (L : List SignD) (E k : Int) (b p m : Nat) (f : Flt) (w : World) (hp : p ≤ 1048577) (h : RdAt L E b p m f w) (hn : f.code ≠ 0 ∨ kindAt L p ≠ k) :
    Calls Tryz.prog 105 #[.pointer (some ⟨b, 0, none⟩), .int .i64 k] w fun e w' => e = .returned (.bool false) ∧ Below w.heap.size w w' := by
  have HRd := Lib.hid h
  obtain ⟨A, c, hbox, hrow, hne⟩ := h
  unfold rdC at hbox
  obtain ⟨a0, a1, a2, a3, a4, a5, a6, af⟩ := row7r hbox
  have l0 := row_lt hbox
  obtain ⟨z, hz⟩ : ∃ z, z = f.code := ⟨_, rfl⟩
  rw [← hz] at a4 hn
  clear hbox hrow hne hz
  by_cases hc : z = 0
  · have hk : kindAt L p ≠ k := hn.resolve_left (fun e => e hc)
    obtain rfl := hc
    obtain ⟨t, ht⟩ : ∃ t, t = kindAt L p := ⟨_, rfl⟩
    rw [← ht] at hk
    have HT := Lib.hid ht
    have d1 : (t != k) = true := bne_iff_ne.2 hk
    have d2 : (t == k) = false := beq_eq_false_iff_ne.2 hk
    clear ht hk hn
    go_enter Tryz.func105, Tryz.ntmps105
    go_wp2_with (go_at_call 67; refine (c_rd_kind L E b p m f _ hp HRd.out).mono ?_; rintro e w1 ⟨rfl, hb1⟩; rw [← HT.out])
    go_ret
    exact ⟨rfl, bel⟩
  · have d1 : (z != 0) = true := bne_iff_ne.2 hc
    have d2 : (z == 0) = false := beq_eq_false_iff_ne.2 hc
    clear hc hn
    go_enter Tryz.func105, Tryz.ntmps105
    go_wp2_with fail
    go_ret
    exact ⟨rfl, bel⟩
set_option maxHeartbeats 4000000 in
set_option maxRecDepth 20000 in
theorem c_rd_skip_yes (L : List SignD) (E k : Int) (b p m : Nat) (f : Flt) (w : World) (hp : p ≤ 1048577) (h : RdAt L E b p m f w) (hf : f.code = 0) (hk : kindAt L p = k) :
    Calls Tryz.prog 105 #[.pointer (some ⟨b, 0, none⟩), .int .i64 k] w fun e w' => e = .returned (.bool true) ∧ RdAt L E b (p + 1) m f w' ∧ Aside (fun q => q = b) w w' := by
  have HRd := Lib.hid h
  obtain ⟨A, c, hbox, hrow, hne⟩ := h
  have HBx := Lib.hid hbox
  unfold rdC at hbox
  obtain ⟨a0, a1, a2, a3, a4, a5, a6, af⟩ := row7r hbox
  have l0 := row_lt hbox
  rw [hf] at a4
  have HK := Lib.hid hk
  clear hbox hrow hne hf hk
  go_enter Tryz.func105, Tryz.ntmps105
  go_wp2_with (go_at_call 67; refine (c_rd_kind L E b p m f _ hp HRd.out).mono ?_; rintro e w1 ⟨rfl, hb1⟩; rw [HK.out]; have hx1 := (hb1.block b l0).trans HBx.out; have HX1 := Lib.hid hx1; have HB1 := Lib.hid hb1; clear a0 a1 a2 a3 a4 a5 a6 af; obtain ⟨a0, a1, a2, a3, a4, a5, a6, af⟩ := row7r (show w1.heap[b]? = some (.cells #[.slice A L.length c, .int .i64 p, .int .i64 E, .int .i64 m, .int .i64 f.code, .int .i64 f.at', .string f.path] 56 (0, 0)) from hx1); have l1 := row_lt hx1; clear hx1)
  have hF : Aside (fun q => q = b) w1 (w1.setCell ⟨b, 1, none⟩ (.int .i64 ((p : Int) + 1))) := aside_set rfl (Aside.refl _ _)
  have hR := RdAt.poke (p' := p + 1) (m' := m) (f' := f) (HRd.out.below HB1.out) hF (fun A c h => by unfold rdC at h ⊢; exact set7_1 h)
  have HF := Lib.hid ((Aside.of_below (S := fun q => q = b) HB1.out).trans hF)
  have HR := Lib.hid hR
  clear hF hR
  go_ret
  exact ⟨rfl, HR.out, HF.out⟩
set_option maxHeartbeats 4000000 in
set_option maxRecDepth 20000 in
theorem c_rd_fail_old (L : List SignD) (E k : Int) (b p m : Nat) (f : Flt) (w : World) (h : RdAt L E b p m f w) (hf : f.code ≠ 0) :
    Calls Tryz.prog 35 #[.pointer (some ⟨b, 0, none⟩), .int .i64 k] w fun e w' => e = .returned (.tuple #[]) ∧ Below w.heap.size w w' := by
  obtain ⟨A, c, hbox, hrow, hne⟩ := h
  unfold rdC at hbox
  obtain ⟨a0, a1, a2, a3, a4, a5, a6, af⟩ := row7r hbox
  have l0 := row_lt hbox
  obtain ⟨z, hz⟩ : ∃ z, z = f.code := ⟨_, rfl⟩
  rw [← hz] at a4 hf
  have d1 : (z != 0) = true := bne_iff_ne.2 hf
  have d2 : (z == 0) = false := beq_eq_false_iff_ne.2 hf
  clear hbox hrow hne hz hf
  go_enter Tryz.func35, Tryz.ntmps35
  go_wp2_with fail
  exact bodyPost_ret (v := .tuple #[]) (by simp only [results, Tryz.results35]; go_simp) rfl ⟨rfl, bel⟩
set_option maxHeartbeats 4000000 in
set_option maxRecDepth 20000 in
theorem c_rd_fail_new (L : List SignD) (E k : Int) (b p m : Nat) (f : Flt) (w : World) (hp : p ≤ 1048577) (h : RdAt L E b p m f w) (hf : f.code = 0) :
    Calls Tryz.prog 35 #[.pointer (some ⟨b, 0, none⟩), .int .i64 k] w fun e w' => e = .returned (.tuple #[]) ∧ RdAt L E b p m (badF L E k p) w' ∧ Aside (fun q => q = b) w w' := by
  have HRd := Lib.hid h
  obtain ⟨A, c, hbox, hrow, hne⟩ := h
  have HBx := Lib.hid hbox
  unfold rdC at hbox
  obtain ⟨a0, a1, a2, a3, a4, a5, a6, af⟩ := row7r hbox
  have HB0 := Lib.hid hbox
  have l0 := row_lt hbox
  rw [hf] at a4
  clear hbox hrow hne hf
  obtain ⟨wf, hwf⟩ : ∃ wf, wf = ((w.setCell ⟨b, 4, none⟩ (.int .i64 k)).setCell ⟨b, 5, none⟩ (.int .i64 E)).setCell ⟨b, 6, none⟩ (.string ⟨#[]⟩) := ⟨_, rfl⟩
  have hF : Aside (fun q => q = b) w wf := by rw [hwf]; exact aside_set rfl (aside_set rfl (aside_set rfl (Aside.refl _ _)))
  have hx : wf.heap[b]? = some (.cells #[.slice A L.length c, .int .i64 p, .int .i64 E, .int .i64 m, .int .i64 k, .int .i64 E, .string ⟨#[]⟩] 56 (0, 0)) := by rw [hwf]; exact set7_6 (set7_5 (set7_4 HB0.out))
  have hR : RdAt L E b p m ⟨k, E, ⟨#[]⟩⟩ wf := RdAt.poke HRd.out hF (fun A' c' h' => by rw [hwf]; unfold rdC at h' ⊢; exact set7_6 (set7_5 (set7_4 h')))
  have HF := Lib.hid hF
  have HX := Lib.hid hx
  have HR := Lib.hid hR
  have HW := Lib.hid hwf
  clear hF hx hR hwf
  by_cases hlt : (p : Int) < L.length
  · have hz0 : (0 : Int) ≤ p := by omega
    go_enter Tryz.func35, Tryz.ntmps35
    go_wp2_with fail
    rw [← HW.out]
    clear a0 a1 a2 a3 a4 a5 a6 af
    obtain ⟨a0, a1, a2, a3, a4, a5, a6, af⟩ := row7r HX.out
    have l1 := row_lt HX.out
    refine wp_region_det 10 (by kernel_rfl) (by kernel_rfl) (by decide) ?_
    apply Exists.intro
    refine And.intro ?_ ?_
    · (intro W hW; (try simp only [Act.put, List.setIfInBounds_toArray, List.set_cons_zero, List.set_cons_succ]); first | (go_wp2_with fail; exact ⟨rfl, rfl, Below.refl _ _⟩))
    apply Exists.intro
    refine And.intro ?_ ?_
    · (intro W hW; (try simp only [Act.put, List.setIfInBounds_toArray, List.set_cons_zero, List.set_cons_succ]); first | (go_wp2_with fail; exact ⟨rfl, rfl, Below.refl _ _⟩))
    apply Exists.intro
    refine And.intro ?_ ?_
    · (intro W hW; (try simp only [Act.put, List.setIfInBounds_toArray, List.set_cons_zero, List.set_cons_succ]); first | (go_wp2_with fail; exact ⟨rfl, rfl, Below.refl _ _⟩))
    apply Exists.intro
    refine And.intro ?_ ?_
    · (intro W hW; (try simp only [Act.put, List.setIfInBounds_toArray, List.set_cons_zero, List.set_cons_succ]); first | (obtain ⟨hcW, hfW⟩ := bcell hW; have hsW := hW.size; (try simp at hsW); (try have hsW0 := lt_of_succ_le hsW); (try (have hsW1 := lt_pred hsW; (try (have hsW2 := lt_pred hsW1)))); go_wp2_with fail; exact ⟨rfl, rfl, Below.refl _ _⟩))
    apply Exists.intro
    refine And.intro ?_ ?_
    · (intro W hW; (try simp only [Act.put, List.setIfInBounds_toArray, List.set_cons_zero, List.set_cons_succ]); first | (go_wp2_with fail; exact ⟨rfl, rfl, Below.refl _ _⟩))
    apply Exists.intro
    refine And.intro ?_ ?_
    · (intro W hW; (try simp only [Act.put, List.setIfInBounds_toArray, List.set_cons_zero, List.set_cons_succ]); first | (go_wp2_with fail; exact ⟨rfl, rfl, Below.refl _ _⟩))
    apply Exists.intro
    refine And.intro ?_ ?_
    · (intro W hW; (try simp only [Act.put, List.setIfInBounds_toArray, List.set_cons_zero, List.set_cons_succ]); first | (go_wp2_with fail; exact ⟨rfl, rfl, Below.refl _ _⟩))
    apply Exists.intro
    refine And.intro ?_ ?_
    · (intro W hW; (try simp only [Act.put, List.setIfInBounds_toArray, List.set_cons_zero, List.set_cons_succ]); first | (obtain ⟨hcW, hfW⟩ := bcell hW; have hsW := hW.size; (try simp at hsW); (try have hsW0 := lt_of_succ_le hsW); (try (have hsW1 := lt_pred hsW; (try (have hsW2 := lt_pred hsW1)))); go_wp2_with fail; exact ⟨rfl, rfl, Below.refl _ _⟩))
    apply Exists.intro
    refine And.intro ?_ ?_
    · (intro W hW; (try simp only [Act.put, List.setIfInBounds_toArray, List.set_cons_zero, List.set_cons_succ]); first | (go_wp2_with fail; exact ⟨rfl, rfl, Below.refl _ _⟩))
    apply Exists.intro
    refine And.intro ?_ ?_
    · (intro W hW; (try simp only [Act.put, List.setIfInBounds_toArray, List.set_cons_zero, List.set_cons_succ]); first | (go_wp2_with fail; exact ⟨rfl, rfl, Below.refl _ _⟩))
    intro wq hbwq
    (try simp only [Act.put, List.setIfInBounds_toArray, List.set_cons_zero, List.set_cons_succ])
    (try simp only [List.drop_succ_cons, List.drop_nil])
    have hb1 := (hbwq.block b l1).trans HX.out
    have HBq := Lib.hid hbwq
    clear a0 a1 a2 a3 a4 a5 a6 af
    obtain ⟨a0, a1, a2, a3, a4, a5, a6, af⟩ := row7r hb1
    have l2 := row_lt hb1
    have HRq := Lib.hid (HR.out.below hbwq)
    obtain ⟨A2, c2, hq1, hq2, hq3⟩ := HRq.out
    obtain ⟨rfl, rfl⟩ : A2 = A ∧ c2 = c := by
      have := hb1.symm.trans hq1
      unfold rdC at this
      simp at this
      exact ⟨this.1.symm, this.2.symm⟩
    obtain ⟨g, x, rfl, hx, hlc, lg, d0, d1, d2, d3⟩ := sign_row (p := p) hq2 (by omega)
    have HP := Lib.hid (show badF L E k p = ⟨k, x.at', ⟨#[]⟩⟩ by unfold badF placeAt; rw [hx])
    clear hx hb1 hq1 hq2 hq3
    go_wp2_with fail
    go_region_law (fail)
    all_goals
      (try go_wp2_with fail)
      have hF2 : Aside (fun q => q = b) wq (wq.setCell ⟨b, 5, none⟩ (.int .i64 x.at')) := aside_set rfl (Aside.refl _ _)
      have hR2 := RdAt.poke (p' := p) (m' := m) (f' := ⟨k, x.at', ⟨#[]⟩⟩) HRq.out hF2 (fun A' c' h' => by unfold rdC at h' ⊢; exact set7_5 h')
      have hD : Below (wq.setCell ⟨b, 5, none⟩ (.int .i64 x.at')).heap.size (wq.setCell ⟨b, 5, none⟩ (.int .i64 x.at')) (wq.setCell ⟨b, 5, none⟩ (.int .i64 x.at')).drew := bel
      exact bodyPost_end (v := .tuple #[]) (by simp only [results, Tryz.results35]; go_simp) rfl ⟨rfl, by rw [HP.out]; exact hR2.below hD, HF.out.trans ((Aside.of_below HBq.out).trans (hF2.trans (Aside.of_below hD)))⟩
  · have HP := Lib.hid (show badF L E k p = ⟨k, E, ⟨#[]⟩⟩ by unfold badF placeAt; rw [List.getElem?_eq_none (by omega)])
    go_enter Tryz.func35, Tryz.ntmps35
    go_wp2_with fail
    rw [← HW.out]
    clear a0 a1 a2 a3 a4 a5 a6 af
    obtain ⟨a0, a1, a2, a3, a4, a5, a6, af⟩ := row7r HX.out
    have l1 := row_lt HX.out
    refine wp_region_det 10 (by kernel_rfl) (by kernel_rfl) (by decide) ?_
    apply Exists.intro
    refine And.intro ?_ ?_
    · (intro W hW; (try simp only [Act.put, List.setIfInBounds_toArray, List.set_cons_zero, List.set_cons_succ]); first | (go_wp2_with fail; exact ⟨rfl, rfl, Below.refl _ _⟩))
    apply Exists.intro
    refine And.intro ?_ ?_
    · (intro W hW; (try simp only [Act.put, List.setIfInBounds_toArray, List.set_cons_zero, List.set_cons_succ]); first | (go_wp2_with fail; exact ⟨rfl, rfl, Below.refl _ _⟩))
    apply Exists.intro
    refine And.intro ?_ ?_
    · (intro W hW; (try simp only [Act.put, List.setIfInBounds_toArray, List.set_cons_zero, List.set_cons_succ]); first | (go_wp2_with fail; exact ⟨rfl, rfl, Below.refl _ _⟩))
    apply Exists.intro
    refine And.intro ?_ ?_
    · (intro W hW; (try simp only [Act.put, List.setIfInBounds_toArray, List.set_cons_zero, List.set_cons_succ]); first | (obtain ⟨hcW, hfW⟩ := bcell hW; have hsW := hW.size; (try simp at hsW); (try have hsW0 := lt_of_succ_le hsW); (try (have hsW1 := lt_pred hsW; (try (have hsW2 := lt_pred hsW1)))); go_wp2_with fail; exact ⟨rfl, rfl, Below.refl _ _⟩))
    apply Exists.intro
    refine And.intro ?_ ?_
    · (intro W hW; (try simp only [Act.put, List.setIfInBounds_toArray, List.set_cons_zero, List.set_cons_succ]); first | (go_wp2_with fail; exact ⟨rfl, rfl, Below.refl _ _⟩))
    apply Exists.intro
    refine And.intro ?_ ?_
    · (intro W hW; (try simp only [Act.put, List.setIfInBounds_toArray, List.set_cons_zero, List.set_cons_succ]); first | (go_wp2_with fail; exact ⟨rfl, rfl, Below.refl _ _⟩))
    apply Exists.intro
    refine And.intro ?_ ?_
    · (intro W hW; (try simp only [Act.put, List.setIfInBounds_toArray, List.set_cons_zero, List.set_cons_succ]); first | (go_wp2_with fail; exact ⟨rfl, rfl, Below.refl _ _⟩))
    apply Exists.intro
    refine And.intro ?_ ?_
    · (intro W hW; (try simp only [Act.put, List.setIfInBounds_toArray, List.set_cons_zero, List.set_cons_succ]); first | (obtain ⟨hcW, hfW⟩ := bcell hW; have hsW := hW.size; (try simp at hsW); (try have hsW0 := lt_of_succ_le hsW); (try (have hsW1 := lt_pred hsW; (try (have hsW2 := lt_pred hsW1)))); go_wp2_with fail; exact ⟨rfl, rfl, Below.refl _ _⟩))
    apply Exists.intro
    refine And.intro ?_ ?_
    · (intro W hW; (try simp only [Act.put, List.setIfInBounds_toArray, List.set_cons_zero, List.set_cons_succ]); first | (go_wp2_with fail; exact ⟨rfl, rfl, Below.refl _ _⟩))
    apply Exists.intro
    refine And.intro ?_ ?_
    · (intro W hW; (try simp only [Act.put, List.setIfInBounds_toArray, List.set_cons_zero, List.set_cons_succ]); first | (go_wp2_with fail; exact ⟨rfl, rfl, Below.refl _ _⟩))
    intro wq hbwq
    (try simp only [Act.put, List.setIfInBounds_toArray, List.set_cons_zero, List.set_cons_succ])
    (try simp only [List.drop_succ_cons, List.drop_nil])
    have HRq := Lib.hid (HR.out.below hbwq)
    have HBq := Lib.hid hbwq
    go_wp2_with fail
    exact bodyPost_end (v := .tuple #[]) (by simp only [results, Tryz.results35]; go_simp) rfl ⟨rfl, by rw [HP.out]; exact HRq.out, HF.out.trans (Aside.of_below HBq.out)⟩
end Go.Proofs.YtffelpdefjkeaaaGreatDoor
