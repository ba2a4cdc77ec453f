/- Written by wip/tools/pack.py: the texts that FnOrder needs, without what it does not need. No conditions. -/
import Derived.Test.YtffelpdefjkeaaaGreatDoorKFnOrder1
import Derived.Orders
namespace Go.Proofs.YtffelpdefjkeaaaGreatDoor
open Go.RowKit
/-- The slot that operation j writes. -/
def dstAt (ops : Array Oper) (j : Nat) : Option Tmp := (ops[j]?).bind (·.dst)
def isSelect : Op → Bool
  | .select .. => true
  | _ => false
/-- The first m operations write slots of their own and look only at slots of their forerunners; each later one comes behind all. -/
def detOk (ops : Array Oper) (m : Nat) : Bool :=
  decide (m ≤ ops.size) && (List.range ops.size).all fun i => match ops[i]? with
    | none => false
    | some o => o.after.all (fun e => !Region.binds .any e || decide (e.on < i)) &&
      (if i < m then
        !isSelect o.op &&
        (match o.dst with | none => false | some d => (List.range m).all fun j => j == i || dstAt ops j != some d) &&
        (o.looksAt ops).all (fun t => (List.range m).all fun j => dstAt ops j != some t || o.after.any (fun e => Region.binds .any e && e.on == j))
      else (List.range i).all fun j => o.after.any (fun e => Region.binds .any e && e.on == j))
def QDet (A : Act) (w : World) : Exit → Act → World → Prop := fun e a' w' => e = .normal ∧ a' = A ∧ Below w.heap.size w w'
/-- The operations one by one in the order of the text: each yields a value c whatever new memory there is; at the end T. -/
def ChainDet (P : Program) (ops : Array Oper) (w : World) (T : Act → Prop) : List Oper → Act → Prop
  | [], A => T A
  | o :: rest, A => ∃ c, (∀ w', Below w.heap.size w w' → wpList P ops (QDet (A.put o.dst c) w') [o] A w') ∧ ChainDet P ops w T rest (A.put o.dst c)
def putAll (A : Act) : List Oper → List Value → Act
  | o :: l, c :: cs => putAll (A.put o.dst c) l cs
  | _, _ => A
theorem put_sz (A : Act) (d : Option Tmp) (c : Value) : (A.put d c).tmps.size = A.tmps.size ∧ (A.put d c).defers = A.defers := by
  cases d <;> simp [Act.put]
theorem putAll_sz : ∀ (l : List Oper) (cs : List Value) (A : Act), (putAll A l cs).tmps.size = A.tmps.size ∧ (putAll A l cs).defers = A.defers
  | [], _, A => ⟨rfl, rfl⟩
  | _ :: _, [], A => ⟨rfl, rfl⟩
  | o :: l, c :: cs, A => by
    have h := putAll_sz l cs (A.put o.dst c)
    have h2 := put_sz A o.dst c
    exact ⟨h.1.trans h2.1, h.2.trans h2.2⟩
theorem put_at {a : Act} {d : Tmp} {v : Value} {t : Tmp} : (a.put (some d) v).tmps[t]? = if d = t then (if d < a.tmps.size then some v else none) else a.tmps[t]? := by
  simp only [Act.put]
  rw [Array.getElem?_setIfInBounds]
theorem put_far {a : Act} {d : Option Tmp} {v : Value} {t : Tmp} (h : d ≠ some t) : (a.put d v).tmps[t]? = a.tmps[t]? := by
  cases d with
  | none => rfl
  | some d =>
    rw [put_at, if_neg (fun e => h (by rw [e]))]
theorem putAll_far : ∀ (l : List Oper) (cs : List Value) (A : Act) (t : Tmp), (∀ o ∈ l, o.dst ≠ some t) → (putAll A l cs).tmps[t]? = A.tmps[t]?
  | [], _, A, t, _ => rfl
  | _ :: _, [], A, t, _ => rfl
  | o :: l, c :: cs, A, t, h => by
    rw [putAll, putAll_far l cs _ t (fun o' ho' => h o' (List.mem_cons_of_mem _ ho')), put_far (h o (List.mem_cons_self ..))]
theorem putAll_at : ∀ (l : List Oper) (cs : List Value) (A : Act) (j : Nat) (o : Oper) (d : Tmp), cs.length = l.length → l[j]? = some o → o.dst = some d → (∀ k o', k ≠ j → l[k]? = some o' → o'.dst ≠ some d) →
    (putAll A l cs).tmps[d]? = if d < A.tmps.size then cs[j]? else none
  | [], _, A, j, o, d, _, h, _, _ => by simp at h
  | x :: l, [], A, j, o, d, h, _, _, _ => by simp at h
  | x :: l, c :: cs, A, 0, o, d, hl, h, hd, hu => by
    simp at h
    subst h
    rw [putAll, putAll_far l cs _ d (fun o' ho' => by
      obtain ⟨k, hk⟩ := List.mem_iff_getElem?.1 ho'
      exact hu (k + 1) o' (by omega) (by simpa using hk)), hd, put_at, if_pos rfl]
    rfl
  | x :: l, c :: cs, A, j + 1, o, d, hl, h, hd, hu => by
    rw [putAll, putAll_at l cs _ j o d (by simpa using hl) (by simpa using h) hd (fun k o' hk ho' => hu (k + 1) o' (by omega) (by simpa using ho')), (put_sz A x.dst c).1]
    rfl
theorem act_ext {a b : Act} (h1 : ∀ t : Nat, a.tmps[t]? = b.tmps[t]?) (h2 : a.defers = b.defers) : a = b := by
  cases a; cases b
  simp at h1 h2
  subst h2
  congr
  exact Array.ext_getElem?  h1
section
variable {P : Program} {ops : Array Oper} {Q : Exit → Act → World → Prop}
theorem no_letsOut {A : Act} {w : World} : ¬ LetsOut (QDet A w) := fun ⟨_, _, h⟩ => by cases h.1
theorem upon_det {o : Oper} {A B a' : Act} {w' : World} {K : Act → World → Prop} {r : Result Next} (hd : B.defers = A.defers)
    (h : o.upon P A (wpList P ops (QDet B w') []) (QDet B w') r) (hK : ∀ v w'', A.put o.dst v = B → Below w'.heap.size w' w'' → K (a'.put o.dst v) w'') : o.upon P a' K Q r := by
  cases r with
  | ok n w1 =>
    cases n with
    | value v => exact hK v w1 h.2.1 h.2.2
    | skip => exact hK undef w1 h.2.1 h.2.2
    | defer d =>
      have h2 := congrArg Act.defers h.2.1
      rw [hd, (put_sz _ _ _).2] at h2
      simp at h2
    | enter f args =>
      refine Calls.mono h ?_
      intro e w2 he
      cases e with
      | returned v => exact hK v w2 he.2.1 he.2.2
      | panicked c => cases he.1
      | outgrown => exact absurd he no_letsOut
    | row row args =>
      exact Rows.mono h (fun v w2 he => hK v w2 he.2.1 he.2.2)
    | _ => exact h.elim
  | halt x w1 =>
    cases x with
    | panic v => cases h.1
    | _ => exact h.elim
theorem detOk_at {m i : Nat} {o : Oper} (h : detOk ops m = true) (ho : ops[i]? = some o) :
    (∀ e ∈ o.after, Region.binds .any e = true → e.on < i) ∧
    (i < m → (∀ cs b, o.op ≠ .select cs b) ∧ (∃ d, o.dst = some d ∧ ∀ j, j < m → j ≠ i → dstAt ops j ≠ some d) ∧ (∀ t ∈ o.looksAt ops, ∀ j, j < m → dstAt ops j = some t → ∃ e ∈ o.after, Region.binds .any e = true ∧ e.on = j)) ∧
    (m ≤ i → ∀ j, j < i → ∃ e ∈ o.after, Region.binds .any e = true ∧ e.on = j) := by
  have hi : i < ops.size := (Array.getElem?_eq_some_iff.1 ho).1
  unfold detOk at h
  rw [Bool.and_eq_true, List.all_eq_true] at h
  have h := h.2 i (List.mem_range.2 hi)
  simp only [ho, Bool.and_eq_true] at h
  obtain ⟨h1, h2⟩ := h
  refine ⟨fun e he hb => ?_, fun hlt => ?_, fun hge j hj => ?_⟩
  · have := Array.all_eq_true_iff_forall_mem.1 h1 e he
    simpa [hb] using this
  · rw [if_pos hlt] at h2
    simp only [Bool.and_eq_true] at h2
    obtain ⟨⟨hs, hd⟩, hl⟩ := h2
    refine ⟨(fun cs b he => by rw [he] at hs; cases hs), ?_, fun t ht j hj hdj => ?_⟩
    · cases hdst : o.dst with
      | none => rw [hdst] at hd; cases hd
      | some d =>
        rw [hdst] at hd
        refine ⟨d, rfl, fun j hj hne he => ?_⟩
        have := List.all_eq_true.1 hd j (List.mem_range.2 hj)
        simp [hne, he] at this
    · have := List.all_eq_true.1 (List.all_eq_true.1 hl t ht) j (List.mem_range.2 hj)
      simp only [hdj, bne_self_eq_false, Bool.false_or] at this
      obtain ⟨e, he, hh⟩ := Array.any_eq_true'.1 this
      simp only [Bool.and_eq_true, beq_iff_eq] at hh
      exact ⟨e, he, hh.1, hh.2⟩
  · rw [if_neg (by omega)] at h2
    have := List.all_eq_true.1 h2 j (List.mem_range.2 hj)
    obtain ⟨e, he, hh⟩ := Array.any_eq_true'.1 this
    simp only [Bool.and_eq_true, beq_iff_eq] at hh
    exact ⟨e, he, hh.1, hh.2⟩
theorem getD_set {listed : Array Bool} {i j : Nat} : (listed.setIfInBounds i true).getD j true = if i = j then true else listed.getD j true := by
  by_cases h : i = j
  · subst h
    rw [if_pos rfl]
    by_cases hs : i < listed.size
    · simp [hs]
    · simp [hs]
  · rw [if_neg h, getD_set_ne _ h]
theorem getD_in {listed : Array Bool} {j : Nat} (h : j < listed.size) : listed.getD j false = listed.getD j true := by simp [h]
theorem det_tail {m : Nat} (hchk : detOk ops m = true) : ∀ (fuel k : Nat) (listed : Array Bool) (a : Act) (w : World), m ≤ k → k ≤ ops.size → listed.size = ops.size → (∀ j, j < ops.size → listed.getD j true = decide (j < k)) → ops.size - k ≤ fuel →
    wpList P ops Q (ops.toList.drop k) a w → wpAny P .any ops Q fuel listed a w := by
  intro fuel
  induction fuel with
  | zero =>
    intro k listed a w _ hk hs hl hf h
    have hkn : k = ops.size := by omega
    subst hkn
    rw [List.drop_of_length_le (by simp)] at h
    refine ⟨?_, h⟩
    rw [List.eq_nil_iff_forall_not_mem]
    intro j hj
    obtain ⟨h0, o, ho, _⟩ := mem_ready.1 hj
    have hjn : j < ops.size := (Array.getElem?_eq_some_iff.1 ho).1
    rw [hl j hjn] at h0
    simp at h0
    omega
  | succ fuel ih =>
    intro k listed a w hm hk hs hl hf h
    by_cases hkn : k = ops.size
    · subst hkn
      rw [List.drop_of_length_le (by simp)] at h
      refine ⟨fun _ => h, fun j hj => ?_⟩
      obtain ⟨h0, o, ho, _⟩ := mem_ready.1 hj
      have hjn : j < ops.size := (Array.getElem?_eq_some_iff.1 ho).1
      rw [hl j hjn] at h0
      simp at h0
      omega
    · have hlt : k < ops.size := by omega
      have hok : ops[k]? = some ops[k] := Array.getElem?_eq_getElem hlt
      have hready : k ∈ Region.ready .any ops listed := by
        refine mem_ready.2 ⟨by rw [hl k hlt]; simp, _, hok, fun e he hb => ?_⟩
        have hon := (detOk_at hchk hok).1 e he hb
        rw [getD_in (by omega), hl _ (by omega)]
        simpa using hon
      refine ⟨(fun hn => by rw [hn] at hready; cases hready), fun i hi => ?_⟩
      obtain ⟨h0, o, ho, hall⟩ := mem_ready.1 hi
      have hin : i < ops.size := (Array.getElem?_eq_some_iff.1 ho).1
      have hik : i = k := by
        rw [hl i hin] at h0
        simp at h0
        by_cases he : i = k
        · exact he
        · exfalso
          obtain ⟨e, he1, he2, he3⟩ := (detOk_at hchk ho).2.2 (by omega) k (by omega)
          have := hall e he1 he2
          rw [he3, getD_in (by omega), hl k hlt] at this
          simp at this
      subst hik
      have hdrop : ops.toList.drop i = ops[i] :: ops.toList.drop (i + 1) := by
        rw [List.drop_eq_getElem_cons (by simpa using hlt)]
        simp
      rw [hdrop] at h
      have hoi : o = ops[i] := by rw [hok] at ho; exact (Option.some.inj ho).symm
      have next : ∀ a' w', wpList P ops Q (ops.toList.drop (i + 1)) a' w' → wpAny P .any ops Q fuel (listed.setIfInBounds i true) a' w' := fun a' w' h' =>
        ih (i + 1) _ a' w' (by omega) (by omega) (by simpa using hs) (fun j hj => by
          rw [getD_set, hl j hj]
          by_cases hij : i = j
          · subst hij; simp
          · rw [if_neg hij, Bool.eq_iff_iff]; simp; omega) (by omega) h'
      unfold wpOp
      rw [hok]
      simp only
      unfold wpList at h
      split
      · rename_i hw
        rw [if_pos hw] at h
        exact h.imp (Oper.wp_mono next) id
      · rename_i hw
        rw [if_neg hw] at h
        exact next _ _ h
structure DetInv (ops : Array Oper) (m : Nat) (a A : Act) (w0 : World) (listed : Array Bool) (a' : Act) (w' : World) : Prop where
  tail : ∀ j, m ≤ j → j < ops.size → listed.getD j true = false
  below : Below w0.heap.size w0 w'
  done : ∀ j d, j < m → listed.getD j true = true → dstAt ops j = some d → a'.tmps[d]? = A.tmps[d]?
  free : ∀ t : Nat, (∀ j, j < m → listed.getD j true = true → dstAt ops j ≠ some t) → a'.tmps[t]? = a.tmps[t]?
  sz : a'.tmps.size = a.tmps.size
  ls : listed.size = ops.size
  df : a'.defers = a.defers
def cntB (m : Nat) (listed : Array Bool) : Nat := (List.range m).countP fun j => !listed.getD j true
theorem countP_lt {p q : Nat → Bool} : ∀ {l : List Nat}, (∀ x, p x = true → q x = true) → ∀ {i : Nat}, i ∈ l → p i = false → q i = true → l.countP p < l.countP q
  | [], _, i, hi, _, _ => by cases hi
  | x :: l, hpq, i, hi, h1, h2 => by
    have hle : l.countP p ≤ l.countP q := List.countP_mono_left (fun x _ => hpq x)
    rw [List.countP_cons, List.countP_cons]
    rcases List.mem_cons.1 hi with rfl | hi'
    · simp [h1, h2]; omega
    · have := countP_lt hpq hi' h1 h2
      have hx := hpq x
      cases hp : p x <;> cases hq : q x <;> simp_all <;> omega
theorem det_end {m : Nat} {a A : Act} {w0 : World} (hchk : detOk ops m = true) (hm : m ≤ ops.size) (hsz : A.tmps.size = a.tmps.size) (hdf : A.defers = a.defers)
    (hfar : ∀ t : Nat, (∀ j, j < m → dstAt ops j ≠ some t) → A.tmps[t]? = a.tmps[t]?)
    (htail : ∀ w', Below w0.heap.size w0 w' → wpList P ops Q (ops.toList.drop m) A w')
    (fuel : Nat) (listed : Array Bool) (a' : Act) (w' : World) (hI : DetInv ops m a A w0 listed a' w') (hall : ∀ j, j < m → listed.getD j true = true) (hf : ops.size - m ≤ fuel) : wpAny P .any ops Q fuel listed a' w' := by
  have hA : a' = A := by
    refine act_ext (fun t => ?_) (by rw [hI.df, hdf])
    by_cases h : ∃ j, j < m ∧ dstAt ops j = some t
    · obtain ⟨j, hj, hd⟩ := h
      exact hI.done j t hj (hall j hj) hd
    · have hn : ∀ j, j < m → dstAt ops j ≠ some t := fun j hj hd => h ⟨j, hj, hd⟩
      rw [hfar t hn, hI.free t (fun j hj _ => hn j hj)]
  subst hA
  refine det_tail hchk fuel m listed a' w' (Nat.le_refl _) hm hI.ls (fun j hj => ?_) hf (htail w' hI.below)
  by_cases hjm : j < m
  · rw [hall j hjm]; simp [hjm]
  · rw [hI.tail j (by omega) hj]; simp [hjm]
theorem det_any {m : Nat} {a A : Act} {w0 : World} (hchk : detOk ops m = true) (hm : m ≤ ops.size) (hsz : A.tmps.size = a.tmps.size) (hdf : A.defers = a.defers)
    (hfar : ∀ t : Nat, (∀ j, j < m → dstAt ops j ≠ some t) → A.tmps[t]? = a.tmps[t]?)
    (hob : ∀ (i : Nat) (o : Oper), i < m → ops[i]? = some o → ∃ (B : Act) (c : Value), B.tmps.size = a.tmps.size ∧ B.defers = a.defers ∧ (∀ t ∈ o.looksAt ops, B.tmps[t]? = A.tmps[t]?) ∧ (∀ d : Tmp, o.dst = some d → (B.put o.dst c).tmps[d]? = A.tmps[d]?) ∧
      ∀ w', Below w0.heap.size w0 w' → wpList P ops (QDet (B.put o.dst c) w') [o] B w')
    (htail : ∀ w', Below w0.heap.size w0 w' → wpList P ops Q (ops.toList.drop m) A w') :
    ∀ (fuel : Nat) (listed : Array Bool) (a' : Act) (w' : World), DetInv ops m a A w0 listed a' w' → cntB m listed + (ops.size - m) ≤ fuel → wpAny P .any ops Q fuel listed a' w' := by
  intro fuel
  induction fuel with
  | zero =>
    intro listed a' w' hI hf
    exact det_end hchk hm hsz hdf hfar htail 0 listed a' w' hI (fun j hj => by
      by_cases hl : listed.getD j true = true
      · exact hl
      · exfalso
        have : 0 < cntB m listed := List.countP_pos_iff.2 ⟨j, List.mem_range.2 hj, by simpa using hl⟩
        omega) (by omega)
  | succ fuel ih =>
    intro listed a' w' hI hf
    by_cases hall : ∀ j, j < m → listed.getD j true = true
    · exact det_end hchk hm hsz hdf hfar htail _ listed a' w' hI hall (by omega)
    · obtain ⟨j0, hj0, hj1⟩ : ∃ j, j < m ∧ listed.getD j true = false := by
        rcases Classical.not_forall.1 hall with ⟨j, hj⟩
        rcases Classical.not_imp.1 hj with ⟨hj, hl⟩
        exact ⟨j, hj, by simpa using hl⟩
      have hfind : ∀ (b j : Nat), j ≤ b → j < m → listed.getD j true = false → ∃ i, i ∈ Region.ready .any ops listed := by
        intro b
        induction b using Nat.strongRecOn with
        | _ b ihb =>
          intro j hjb hjm hjf
          have hjn : j < ops.size := by omega
          have hok : ops[j]? = some ops[j] := Array.getElem?_eq_getElem hjn
          by_cases hr : ∀ e ∈ ops[j].after, Region.binds .any e = true → listed.getD e.on false = true
          · exact ⟨j, mem_ready.2 ⟨hjf, _, hok, hr⟩⟩
          · rcases Classical.not_forall.1 hr with ⟨e, he⟩
            rcases Classical.not_imp.1 he with ⟨he, he2⟩
            rcases Classical.not_imp.1 he2 with ⟨hb, he3⟩
            have hon := (detOk_at hchk hok).1 e he hb
            have hls := hI.ls
            rw [getD_in (by omega)] at he3
            exact ihb e.on (by omega) e.on (Nat.le_refl _) (by omega) (by simpa using he3)
      obtain ⟨i0, hi0⟩ := hfind j0 j0 (Nat.le_refl _) hj0 hj1
      refine ⟨(fun hn => by rw [hn] at hi0; cases hi0), fun i hi => ?_⟩
      obtain ⟨h0, o, ho, hpre⟩ := mem_ready.1 hi
      have hin : i < ops.size := (Array.getElem?_eq_some_iff.1 ho).1
      have hls := hI.ls
      obtain ⟨_, hbody, htl⟩ := detOk_at hchk ho
      have him : i < m := by
        rcases Nat.lt_or_ge i m with h | h
        · exact h
        · exfalso
          obtain ⟨e, he1, he2, he3⟩ := htl h j0 (by omega)
          have := hpre e he1 he2
          rw [he3, getD_in (by omega), hj1] at this
          cases this
      obtain ⟨hsel, ⟨d, hd, hdu⟩, hlook⟩ := hbody him
      have hdi : dstAt ops i = some d := by unfold dstAt; rw [ho]; exact hd
      obtain ⟨B, c, hBs, hBd, hBl, hBc, hBo⟩ := hob i o him ho
      -- what the operation looks at reads as in B
      have hview : ∀ t ∈ o.looksAt ops, a'.tmps[t]? = B.tmps[t]? := by
        intro t ht
        rw [hBl t ht]
        by_cases h : ∃ j, j < m ∧ dstAt ops j = some t
        · obtain ⟨j, hj, hdj⟩ := h
          obtain ⟨e, he1, he2, he3⟩ := hlook t ht j hj hdj
          have hl := hpre e he1 he2
          rw [he3, getD_in (by omega)] at hl
          exact hI.done j t hj hl hdj
        · have hn : ∀ j, j < m → dstAt ops j ≠ some t := fun j hj hd => h ⟨j, hj, hd⟩
          rw [hfar t hn, hI.free t (fun j hj _ => hn j hj)]
      have heval : ∀ x ∈ o.op.operands, B.eval x = a'.eval x := by
        intro x hx
        cases x with
        | tmp t =>
          have ht : t ∈ o.looksAt ops := by
            unfold Oper.looksAt
            exact List.mem_append_left _ (List.mem_filterMap.2 ⟨.tmp t, by simpa using hx, rfl⟩)
          simp only [Act.eval]
          rw [Array.getD_eq_getD_getElem?, Array.getD_eq_getD_getElem?, hview t ht]
        | _ => rfl
      have hwant : Region.wanted o (yielded ops a'.tmps) = Region.wanted o (yielded ops B.tmps) := by
        unfold Region.wanted
        cases hg : o.guard with
        | none => rfl
        | some p =>
          obtain ⟨g, want⟩ := p
          simp only
          have : yielded ops a'.tmps g = yielded ops B.tmps g := by
            unfold yielded
            cases hgd : (ops[g]?).bind (·.dst) with
            | none => rfl
            | some t =>
              have ht : t ∈ o.looksAt ops := by
                unfold Oper.looksAt
                refine List.mem_append_right _ ?_
                simp only [hg]
                rw [hgd]
                simp
              simp only [Option.bind_some]
              rw [hview t ht]
          rw [this]
      have hexec : execOp a'.eval o = execOp B.eval o := (execOp_congr o hsel heval).symm
      have hOi := hBo w' hI.below
      -- the next state
      have next : ∀ v w'', B.put o.dst v = B.put o.dst c → Below w'.heap.size w' w'' → wpAny P .any ops Q fuel (listed.setIfInBounds i true) (a'.put o.dst v) w'' := by
        intro v w'' hv hb
        have hBc' := hBc d hd
        rw [hd] at hv hBc' ⊢
        refine ih _ _ _ ⟨fun j hj hjn => ?_, ext_trans hI.below hb, fun j d' hj hl hdj => ?_, fun t ht => ?_, ?_, by simpa using hls, hI.df⟩ ?_
        · rw [getD_set, if_neg (by omega)]
          exact hI.tail j hj hjn
        · by_cases hji : j = i
          · subst hji
            rw [hdi] at hdj
            obtain rfl := Option.some.inj hdj
            rw [← hBc', ← hv, put_at, if_pos rfl, put_at, if_pos rfl, hI.sz, hBs]
          · rw [getD_set, if_neg (fun h => hji h.symm)] at hl
            rw [put_at, if_neg (fun h => hdu j hj hji (by rw [hdj, h]))]
            exact hI.done j d' hj hl hdj
        · have hne : d ≠ t := fun h => ht i him (by rw [getD_set, if_pos rfl]) (by rw [hdi, h])
          rw [put_at, if_neg hne]
          refine hI.free t (fun j hj hl => ht j hj ?_)
          rw [getD_set]
          split
          · rfl
          · exact hl
        · simp only [Act.put]
          rw [Array.size_setIfInBounds]
          exact hI.sz
        · have : cntB m (listed.setIfInBounds i true) < cntB m listed := by
            refine countP_lt (fun x hx => ?_) (List.mem_range.2 him) ?_ ?_
            · rw [getD_set] at hx
              split at hx
              · cases hx
              · exact hx
            · rw [getD_set, if_pos rfl]; rfl
            · simp [h0]
          omega
      unfold wpOp
      rw [ho]
      simp only
      unfold wpList at hOi
      rw [hwant]
      split
      · rename_i hw
        rw [if_pos hw] at hOi
        refine .inl ?_
        rcases hOi with hOi | ⟨_, hl⟩
        · unfold Oper.wp at hOi ⊢
          rw [hexec]
          exact upon_det (put_sz _ _ _).2 hOi next
        · exact absurd hl no_letsOut
      · rename_i hw
        rw [if_neg hw] at hOi
        exact next undef w' hOi.2.1 (Below.refl _ _)
theorem chain_split {w : World} {T : Act → Prop} : ∀ (l : List Oper) (A : Act), ChainDet P ops w T l A → ∃ cs : List Value, cs.length = l.length ∧ T (putAll A l cs) ∧
    ∀ (i : Nat) (o : Oper), l[i]? = some o → ∃ c, cs[i]? = some c ∧ ∀ w', Below w.heap.size w w' → wpList P ops (QDet ((putAll A (l.take i) (cs.take i)).put o.dst c) w') [o] (putAll A (l.take i) (cs.take i)) w'
  | [], A, h => ⟨[], rfl, h, fun i o hi => by simp at hi⟩
  | x :: l, A, h => by
    obtain ⟨c, h1, h2⟩ := h
    obtain ⟨cs, hl, hT, hi⟩ := chain_split l _ h2
    refine ⟨c :: cs, by simp [hl], hT, fun i o ho => ?_⟩
    cases i with
    | zero =>
      simp at ho
      subst ho
      exact ⟨c, rfl, h1⟩
    | succ i => exact hi i o (by simpa using ho)
/-- A region that draws its order: its first m operations are walked one by one in the order of the text, each in a world that has grown; the others follow. -/
theorem wp_region_det {id : Nat} {a : Act} {w : World} (m : Nat) (hmix : P.follows .mixedOrders = true) (hchk : detOk ops m = true) (hm : m ≤ ops.size)
    (h : ChainDet P ops w (fun A => ∀ w', Below w.heap.size w w' → wpList P ops Q (ops.toList.drop m) A w') (ops.toList.take m) a) : (Code.region id ops true).wp P Q a w := by
  refine wp_region_any hmix ?_
  obtain ⟨cs, hl, hT, hi⟩ := chain_split _ _ h
  have hlen : (ops.toList.take m).length = m := by simp [hm]
  have hget : ∀ (j : Nat) (o : Oper), (ops.toList.take m)[j]? = some o ↔ j < m ∧ ops[j]? = some o := by
    intro j o
    rw [List.getElem?_take]
    by_cases hj : j < m
    · rw [if_pos hj]; simp [hj]
    · rw [if_neg hj]; simp [hj]
  have huniq : ∀ (j : Nat) (o : Oper) (d : Tmp), (ops.toList.take m)[j]? = some o → o.dst = some d → ∀ k o', k ≠ j → (ops.toList.take m)[k]? = some o' → o'.dst ≠ some d := by
    intro j o d hj hd k o' hk ho' hd'
    obtain ⟨hjm, hj'⟩ := (hget j o).1 hj
    obtain ⟨hkm, hk'⟩ := (hget k o').1 ho'
    obtain ⟨_, ⟨d2, hd2, hu⟩, _⟩ := (detOk_at hchk hj').2.1 hjm
    rw [hd] at hd2
    obtain rfl := Option.some.inj hd2
    exact hu k hkm hk (by unfold dstAt; rw [hk']; exact hd')
  have hfar : ∀ t : Nat, (∀ j, j < m → dstAt ops j ≠ some t) → (putAll a (ops.toList.take m) cs).tmps[t]? = a.tmps[t]? := by
    intro t ht
    refine putAll_far _ _ _ _ (fun o ho hd => ?_)
    obtain ⟨j, hj⟩ := List.mem_iff_getElem?.1 ho
    obtain ⟨hjm, hj'⟩ := (hget j o).1 hj
    exact ht j hjm (by unfold dstAt; rw [hj']; exact hd)
  have hsz := putAll_sz (ops.toList.take m) cs a
  refine det_any (m := m) (a := a) (A := putAll a (ops.toList.take m) cs) (w0 := w) hchk hm hsz.1 hsz.2 hfar (fun i o him ho => ?_) hT ops.size _ a _ ⟨fun j _ hj => by simp [hj], (Below.refl _ w).drew, fun j d hj hl => ?_, fun _ _ => rfl, rfl, by simp, rfl⟩ ?_
  · obtain ⟨c, hc, hw⟩ := hi i o ((hget i o).2 ⟨him, ho⟩)
    have hsi := putAll_sz ((ops.toList.take m).take i) (cs.take i) a
    obtain ⟨_, hbody, _⟩ := detOk_at hchk ho
    obtain ⟨_, ⟨d, hd, _⟩, hlook⟩ := hbody him
    refine ⟨_, c, hsi.1, hsi.2, fun t ht => ?_, fun d' hd' => ?_, hw⟩
    · by_cases h : ∃ j, j < m ∧ dstAt ops j = some t
      · obtain ⟨j, hj, hdj⟩ := h
        obtain ⟨e, he1, he2, he3⟩ := hlook t ht j hj hdj
        have hji := (detOk_at hchk ho).1 e he1 he2
        rw [he3] at hji
        have hjn : j < ops.size := by omega
        have hoj : ops[j]? = some ops[j] := Array.getElem?_eq_getElem hjn
        have hdj' : ops[j].dst = some t := by unfold dstAt at hdj; rw [hoj] at hdj; exact hdj
        have hlj := (hget j _).2 ⟨hj, hoj⟩
        rw [putAll_at _ _ _ j _ t hl hlj hdj' (huniq j _ t hlj hdj')]
        rw [putAll_at _ _ _ j ops[j] t (by simp [hl]) (by rw [List.getElem?_take, if_pos hji]; exact hlj) hdj' (fun k o' hk ho' => huniq j _ t hlj hdj' k o' hk (by
          rw [List.getElem?_take] at ho'
          split at ho'
          · exact ho'
          · cases ho'))]
        rw [List.getElem?_take, if_pos hji]
      · have hn : ∀ j, j < m → dstAt ops j ≠ some t := fun j hj hd => h ⟨j, hj, hd⟩
        rw [hfar t hn]
        refine putAll_far _ _ _ _ (fun o' ho' hd' => ?_)
        obtain ⟨j, hj⟩ := List.mem_iff_getElem?.1 (List.mem_of_mem_take ho')
        obtain ⟨hjm, hj'⟩ := (hget j o').1 hj
        exact hn j hjm (by unfold dstAt; rw [hj']; exact hd')
    · have hli := (hget i o).2 ⟨him, ho⟩
      rw [putAll_at _ _ _ i o d' hl hli hd' (huniq i o d' hli hd'), hd', put_at, if_pos rfl, hsi.1, hc]
  · exfalso
    have : j < ops.size := by omega
    simp [this] at hl
  · unfold cntB
    have := List.countP_le_length (p := fun j => !(Array.replicate ops.size false).getD j true) (l := List.range m)
    rw [List.length_range] at this
    omega
end
end Go.Proofs.YtffelpdefjkeaaaGreatDoor
