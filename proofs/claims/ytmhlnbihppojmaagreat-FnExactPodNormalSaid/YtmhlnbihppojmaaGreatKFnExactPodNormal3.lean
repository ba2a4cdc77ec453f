/- Written by wip/tools/pack.py: the texts that FnExactPodNormal needs, without what it does not need. No conditions. -/
import Derived.Test.YtmhlnbihppojmaaGreatKFnExactPodNormal1
import Derived.Orders
import Derived.Test.YtmhlnbihppojmaaGreatKFnExactPodNormal2
namespace Go.Proofs.YtmhlnbihppojmaaGreat
open Go.RowKit
/-- The slot that operation j writes. -/
def dstAt (ops : Array Oper) (j : Nat) : Option Tmp := (ops[j]?).bind (·.dst)
def isSelect : Op → Bool
  | .select .. => true
  | _ => false
/-- The first m operations write slots of their own and look only at slots of their forerunners; each later one comes behind all. -/
def detOk (ops : Array Oper) (m : Nat) : Bool :=
  decide (m ≤ ops.size) && (List.range ops.size).all fun i => match ops[i]? with
    | none => false
    | some o => o.after.all (fun e => !Region.binds .any e || decide (e.on < i)) &&
      (if i < m then
        !isSelect o.op &&
        (match o.dst with | none => false | some d => (List.range m).all fun j => j == i || dstAt ops j != some d) &&
        (o.looksAt ops).all (fun t => (List.range m).all fun j => dstAt ops j != some t || o.after.any (fun e => Region.binds .any e && e.on == j))
      else (List.range i).all fun j => o.after.any (fun e => Region.binds .any e && e.on == j))
def QDet (A : Act) (w : World) : Exit → Act → World → Prop := fun e a' w' => e = .normal ∧ a' = A ∧ Below w.heap.size w w'
/-- The operations one by one in the order of the text: each yields a value c whatever new memory there is; at the end T. -/
def ChainDet (P : Program) (ops : Array Oper) (w : World) (T : Act → Prop) : List Oper → Act → Prop
  | [], A => T A
  | o :: rest, A => ∃ c, (∀ w', Below w.heap.size w w' → wpList P ops (QDet (A.put o.dst c) w') [o] A w') ∧ ChainDet P ops w T rest (A.put o.dst c)
def putAll (A : Act) : List Oper → List Value → Act
  | o :: l, c :: cs => putAll (A.put o.dst c) l cs
  | _, _ => A
theorem put_sz (A : Act) (d : Option Tmp) (c : Value) : (A.put d c).tmps.size = A.tmps.size ∧ (A.put d c).defers = A.defers := by
  cases d <;> simp [Act.put]
theorem putAll_sz : ∀ (l : List Oper) (cs : List Value) (A : Act), (putAll A l cs).tmps.size = A.tmps.size ∧ (putAll A l cs).defers = A.defers
  | [], _, A => ⟨rfl, rfl⟩
  | _ :: _, [], A => ⟨rfl, rfl⟩
  | o :: l, c :: cs, A => by
    have h := putAll_sz l cs (A.put o.dst c)
    have h2 := put_sz A o.dst c
    exact ⟨h.1.trans h2.1, h.2.trans h2.2⟩
theorem put_at {a : Act} {d : Tmp} {v : Value} {t : Tmp} : (a.put (some d) v).tmps[t]? = if d = t then (if d < a.tmps.size then some v else none) else a.tmps[t]? := by
  simp only [Act.put]
  rw [Array.getElem?_setIfInBounds]
theorem put_far {a : Act} {d : Option Tmp} {v : Value} {t : Tmp} (h : d ≠ some t) : (a.put d v).tmps[t]? = a.tmps[t]? := by
  cases d with
  | none => rfl
  | some d =>
    rw [put_at, if_neg (fun e => h (by rw [e]))]
theorem putAll_far : ∀ (l : List Oper) (cs : List Value) (A : Act) (t : Tmp), (∀ o ∈ l, o.dst ≠ some t) → (putAll A l cs).tmps[t]? = A.tmps[t]?
  | [], _, A, t, _ => rfl
  | _ :: _, [], A, t, _ => rfl
  | o :: l, c :: cs, A, t, h => by
    rw [putAll, putAll_far l cs _ t (fun o' ho' => h o' (List.mem_cons_of_mem _ ho')), put_far (h o (List.mem_cons_self ..))]
theorem putAll_at : ∀ (l : List Oper) (cs : List Value) (A : Act) (j : Nat) (o : Oper) (d : Tmp), cs.length = l.length → l[j]? = some o → o.dst = some d → (∀ k o', k ≠ j → l[k]? = some o' → o'.dst ≠ some d) →
    (putAll A l cs).tmps[d]? = if d < A.tmps.size then cs[j]? else none
  | [], _, A, j, o, d, _, h, _, _ => by simp at h
  | x :: l, [], A, j, o, d, h, _, _, _ => by simp at h
  | x :: l, c :: cs, A, 0, o, d, hl, h, hd, hu => by
    simp at h
    subst h
    rw [putAll, putAll_far l cs _ d (fun o' ho' => by
      obtain ⟨k, hk⟩ := List.mem_iff_getElem?.1 ho'
      exact hu (k + 1) o' (by omega) (by simpa using hk)), hd, put_at, if_pos rfl]
    rfl
  | x :: l, c :: cs, A, j + 1, o, d, hl, h, hd, hu => by
    rw [putAll, putAll_at l cs _ j o d (by simpa using hl) (by simpa using h) hd (fun k o' hk ho' => hu (k + 1) o' (by omega) (by simpa using ho')), (put_sz A x.dst c).1]
    rfl
theorem act_ext {a b : Act} (h1 : ∀ t : Nat, a.tmps[t]? = b.tmps[t]?) (h2 : a.defers = b.defers) : a = b := by
  cases a; cases b
  simp at h1 h2
  subst h2
  congr
  exact Array.ext_getElem?  h1
section
variable {P : Program} {ops : Array Oper} {Q : Exit → Act → World → Prop}
theorem no_letsOut {A : Act} {w : World} : ¬ LetsOut (QDet A w) := fun ⟨_, _, h⟩ => by cases h.1
theorem upon_det {o : Oper} {A B a' : Act} {w' : World} {K : Act → World → Prop} {r : Result Next} (hd : B.defers = A.defers)
    (h : o.upon P A (wpList P ops (QDet B w') []) (QDet B w') r) (hK : ∀ v w'', A.put o.dst v = B → Below w'.heap.size w' w'' → K (a'.put o.dst v) w'') : o.upon P a' K Q r := by
  cases r with
  | ok n w1 =>
    cases n with
    | value v => exact hK v w1 h.2.1 h.2.2
    | skip => exact hK undef w1 h.2.1 h.2.2
    | defer d =>
      have h2 := congrArg Act.defers h.2.1
      rw [hd, (put_sz _ _ _).2] at h2
      simp at h2
    | enter f args =>
      refine Calls.mono h ?_
      intro e w2 he
      cases e with
      | returned v => exact hK v w2 he.2.1 he.2.2
      | panicked c => cases he.1
      | outgrown => exact absurd he no_letsOut
    | row row args =>
      exact Rows.mono h (fun v w2 he => hK v w2 he.2.1 he.2.2)
    | _ => exact h.elim
  | halt x w1 =>
    cases x with
    | panic v => cases h.1
    | _ => exact h.elim
theorem detOk_at {m i : Nat} {o : Oper} (h : detOk ops m = true) (ho : ops[i]? = some o) :
    (∀ e ∈ o.after, Region.binds .any e = true → e.on < i) ∧
    (i < m → (∀ cs b, o.op ≠ .select cs b) ∧ (∃ d, o.dst = some d ∧ ∀ j, j < m → j ≠ i → dstAt ops j ≠ some d) ∧ (∀ t ∈ o.looksAt ops, ∀ j, j < m → dstAt ops j = some t → ∃ e ∈ o.after, Region.binds .any e = true ∧ e.on = j)) ∧
    (m ≤ i → ∀ j, j < i → ∃ e ∈ o.after, Region.binds .any e = true ∧ e.on = j) := by
  have hi : i < ops.size := (Array.getElem?_eq_some_iff.1 ho).1
  unfold detOk at h
  rw [Bool.and_eq_true, List.all_eq_true] at h
  have h := h.2 i (List.mem_range.2 hi)
  simp only [ho, Bool.and_eq_true] at h
  obtain ⟨h1, h2⟩ := h
  refine ⟨fun e he hb => ?_, fun hlt => ?_, fun hge j hj => ?_⟩
  · have := Array.all_eq_true_iff_forall_mem.1 h1 e he
    simpa [hb] using this
  · rw [if_pos hlt] at h2
    simp only [Bool.and_eq_true] at h2
    obtain ⟨⟨hs, hd⟩, hl⟩ := h2
    refine ⟨(fun cs b he => by rw [he] at hs; cases hs), ?_, fun t ht j hj hdj => ?_⟩
    · cases hdst : o.dst with
      | none => rw [hdst] at hd; cases hd
      | some d =>
        rw [hdst] at hd
        refine ⟨d, rfl, fun j hj hne he => ?_⟩
        have := List.all_eq_true.1 hd j (List.mem_range.2 hj)
        simp [hne, he] at this
    · have := List.all_eq_true.1 (List.all_eq_true.1 hl t ht) j (List.mem_range.2 hj)
      simp only [hdj, bne_self_eq_false, Bool.false_or] at this
      obtain ⟨e, he, hh⟩ := Array.any_eq_true'.1 this
      simp only [Bool.and_eq_true, beq_iff_eq] at hh
      exact ⟨e, he, hh.1, hh.2⟩
  · rw [if_neg (by omega)] at h2
    have := List.all_eq_true.1 h2 j (List.mem_range.2 hj)
    obtain ⟨e, he, hh⟩ := Array.any_eq_true'.1 this
    simp only [Bool.and_eq_true, beq_iff_eq] at hh
    exact ⟨e, he, hh.1, hh.2⟩
theorem getD_set {listed : Array Bool} {i j : Nat} : (listed.setIfInBounds i true).getD j true = if i = j then true else listed.getD j true := by
  by_cases h : i = j
  · subst h
    rw [if_pos rfl]
    by_cases hs : i < listed.size
    · simp [hs]
    · simp [hs]
  · rw [if_neg h, getD_set_ne _ h]
theorem getD_in {listed : Array Bool} {j : Nat} (h : j < listed.size) : listed.getD j false = listed.getD j true := by simp [h]
theorem det_tail {m : Nat} (hchk : detOk ops m = true) : ∀ (fuel k : Nat) (listed : Array Bool) (a : Act) (w : World), m ≤ k → k ≤ ops.size → listed.size = ops.size → (∀ j, j < ops.size → listed.getD j true = decide (j < k)) → ops.size - k ≤ fuel →
    wpList P ops Q (ops.toList.drop k) a w → wpAny P .any ops Q fuel listed a w := by
  intro fuel
  induction fuel with
  | zero =>
    intro k listed a w _ hk hs hl hf h
    have hkn : k = ops.size := by omega
    subst hkn
    rw [List.drop_of_length_le (by simp)] at h
    refine ⟨?_, h⟩
    rw [List.eq_nil_iff_forall_not_mem]
    intro j hj
    obtain ⟨h0, o, ho, _⟩ := mem_ready.1 hj
    have hjn : j < ops.size := (Array.getElem?_eq_some_iff.1 ho).1
    rw [hl j hjn] at h0
    simp at h0
    omega
  | succ fuel ih =>
    intro k listed a w hm hk hs hl hf h
    by_cases hkn : k = ops.size
    · subst hkn
      rw [List.drop_of_length_le (by simp)] at h
      refine ⟨fun _ => h, fun j hj => ?_⟩
      obtain ⟨h0, o, ho, _⟩ := mem_ready.1 hj
      have hjn : j < ops.size := (Array.getElem?_eq_some_iff.1 ho).1
      rw [hl j hjn] at h0
      simp at h0
      omega
    · have hlt : k < ops.size := by omega
      have hok : ops[k]? = some ops[k] := Array.getElem?_eq_getElem hlt
      have hready : k ∈ Region.ready .any ops listed := by
        refine mem_ready.2 ⟨by rw [hl k hlt]; simp, _, hok, fun e he hb => ?_⟩
        have hon := (detOk_at hchk hok).1 e he hb
        rw [getD_in (by omega), hl _ (by omega)]
        simpa using hon
      refine ⟨(fun hn => by rw [hn] at hready; cases hready), fun i hi => ?_⟩
      obtain ⟨h0, o, ho, hall⟩ := mem_ready.1 hi
      have hin : i < ops.size := (Array.getElem?_eq_some_iff.1 ho).1
      have hik : i = k := by
        rw [hl i hin] at h0
        simp at h0
        by_cases he : i = k
        · exact he
        · exfalso
          obtain ⟨e, he1, he2, he3⟩ := (detOk_at hchk ho).2.2 (by omega) k (by omega)
          have := hall e he1 he2
          rw [he3, getD_in (by omega), hl k hlt] at this
          simp at this
      subst hik
      have hdrop : ops.toList.drop i = ops[i] :: ops.toList.drop (i + 1) := by
        rw [List.drop_eq_getElem_cons (by simpa using hlt)]
        simp
      rw [hdrop] at h
      have hoi : o = ops[i] := by rw [hok] at ho; exact (Option.some.inj ho).symm
      have next : ∀ a' w', wpList P ops Q (ops.toList.drop (i + 1)) a' w' → wpAny P .any ops Q fuel (listed.setIfInBounds i true) a' w' := fun a' w' h' =>
        ih (i + 1) _ a' w' (by omega) (by omega) (by simpa using hs) (fun j hj => by
          rw [getD_set, hl j hj]
          by_cases hij : i = j
          · subst hij; simp
          · rw [if_neg hij, Bool.eq_iff_iff]; simp; omega) (by omega) h'
      unfold wpOp
      rw [hok]
      simp only
      unfold wpList at h
      split
      · rename_i hw
        rw [if_pos hw] at h
        exact h.imp (Oper.wp_mono next) id
      · rename_i hw
        rw [if_neg hw] at h
        exact next _ _ h
structure DetInv (ops : Array Oper) (m : Nat) (a A : Act) (w0 : World) (listed : Array Bool) (a' : Act) (w' : World) : Prop where
  tail : ∀ j, m ≤ j → j < ops.size → listed.getD j true = false
  below : Below w0.heap.size w0 w'
  done : ∀ j d, j < m → listed.getD j true = true → dstAt ops j = some d → a'.tmps[d]? = A.tmps[d]?
  free : ∀ t : Nat, (∀ j, j < m → listed.getD j true = true → dstAt ops j ≠ some t) → a'.tmps[t]? = a.tmps[t]?
  sz : a'.tmps.size = a.tmps.size
  ls : listed.size = ops.size
  df : a'.defers = a.defers
def cntB (m : Nat) (listed : Array Bool) : Nat := (List.range m).countP fun j => !listed.getD j true
theorem countP_lt {p q : Nat → Bool} : ∀ {l : List Nat}, (∀ x, p x = true → q x = true) → ∀ {i : Nat}, i ∈ l → p i = false → q i = true → l.countP p < l.countP q
  | [], _, i, hi, _, _ => by cases hi
  | x :: l, hpq, i, hi, h1, h2 => by
    have hle : l.countP p ≤ l.countP q := List.countP_mono_left (fun x _ => hpq x)
    rw [List.countP_cons, List.countP_cons]
    rcases List.mem_cons.1 hi with rfl | hi'
    · simp [h1, h2]; omega
    · have := countP_lt hpq hi' h1 h2
      have hx := hpq x
      cases hp : p x <;> cases hq : q x <;> simp_all <;> omega
theorem det_end {m : Nat} {a A : Act} {w0 : World} (hchk : detOk ops m = true) (hm : m ≤ ops.size) (hsz : A.tmps.size = a.tmps.size) (hdf : A.defers = a.defers)
    (hfar : ∀ t : Nat, (∀ j, j < m → dstAt ops j ≠ some t) → A.tmps[t]? = a.tmps[t]?)
    (htail : ∀ w', Below w0.heap.size w0 w' → wpList P ops Q (ops.toList.drop m) A w')
    (fuel : Nat) (listed : Array Bool) (a' : Act) (w' : World) (hI : DetInv ops m a A w0 listed a' w') (hall : ∀ j, j < m → listed.getD j true = true) (hf : ops.size - m ≤ fuel) : wpAny P .any ops Q fuel listed a' w' := by
  have hA : a' = A := by
    refine act_ext (fun t => ?_) (by rw [hI.df, hdf])
    by_cases h : ∃ j, j < m ∧ dstAt ops j = some t
    · obtain ⟨j, hj, hd⟩ := h
      exact hI.done j t hj (hall j hj) hd
    · have hn : ∀ j, j < m → dstAt ops j ≠ some t := fun j hj hd => h ⟨j, hj, hd⟩
      rw [hfar t hn, hI.free t (fun j hj _ => hn j hj)]
  subst hA
  refine det_tail hchk fuel m listed a' w' (Nat.le_refl _) hm hI.ls (fun j hj => ?_) hf (htail w' hI.below)
  by_cases hjm : j < m
  · rw [hall j hjm]; simp [hjm]
  · rw [hI.tail j (by omega) hj]; simp [hjm]
theorem det_any {m : Nat} {a A : Act} {w0 : World} (hchk : detOk ops m = true) (hm : m ≤ ops.size) (hsz : A.tmps.size = a.tmps.size) (hdf : A.defers = a.defers)
    (hfar : ∀ t : Nat, (∀ j, j < m → dstAt ops j ≠ some t) → A.tmps[t]? = a.tmps[t]?)
    (hob : ∀ (i : Nat) (o : Oper), i < m → ops[i]? = some o → ∃ (B : Act) (c : Value), B.tmps.size = a.tmps.size ∧ B.defers = a.defers ∧ (∀ t ∈ o.looksAt ops, B.tmps[t]? = A.tmps[t]?) ∧ (∀ d : Tmp, o.dst = some d → (B.put o.dst c).tmps[d]? = A.tmps[d]?) ∧
      ∀ w', Below w0.heap.size w0 w' → wpList P ops (QDet (B.put o.dst c) w') [o] B w')
    (htail : ∀ w', Below w0.heap.size w0 w' → wpList P ops Q (ops.toList.drop m) A w') :
    ∀ (fuel : Nat) (listed : Array Bool) (a' : Act) (w' : World), DetInv ops m a A w0 listed a' w' → cntB m listed + (ops.size - m) ≤ fuel → wpAny P .any ops Q fuel listed a' w' := by
  intro fuel
  induction fuel with
  | zero =>
    intro listed a' w' hI hf
    exact det_end hchk hm hsz hdf hfar htail 0 listed a' w' hI (fun j hj => by
      by_cases hl : listed.getD j true = true
      · exact hl
      · exfalso
        have : 0 < cntB m listed := List.countP_pos_iff.2 ⟨j, List.mem_range.2 hj, by simpa using hl⟩
        omega) (by omega)
  | succ fuel ih =>
    intro listed a' w' hI hf
    by_cases hall : ∀ j, j < m → listed.getD j true = true
    · exact det_end hchk hm hsz hdf hfar htail _ listed a' w' hI hall (by omega)
    · obtain ⟨j0, hj0, hj1⟩ : ∃ j, j < m ∧ listed.getD j true = false := by
        rcases Classical.not_forall.1 hall with ⟨j, hj⟩
        rcases Classical.not_imp.1 hj with ⟨hj, hl⟩
        exact ⟨j, hj, by simpa using hl⟩
      have hfind : ∀ (b j : Nat), j ≤ b → j < m → listed.getD j true = false → ∃ i, i ∈ Region.ready .any ops listed := by
        intro b
        induction b using Nat.strongRecOn with
        | _ b ihb =>
          intro j hjb hjm hjf
          have hjn : j < ops.size := by omega
          have hok : ops[j]? = some ops[j] := Array.getElem?_eq_getElem hjn
          by_cases hr : ∀ e ∈ ops[j].after, Region.binds .any e = true → listed.getD e.on false = true
          · exact ⟨j, mem_ready.2 ⟨hjf, _, hok, hr⟩⟩
          · rcases Classical.not_forall.1 hr with ⟨e, he⟩
            rcases Classical.not_imp.1 he with ⟨he, he2⟩
            rcases Classical.not_imp.1 he2 with ⟨hb, he3⟩
            have hon := (detOk_at hchk hok).1 e he hb
            have hls := hI.ls
            rw [getD_in (by omega)] at he3
            exact ihb e.on (by omega) e.on (Nat.le_refl _) (by omega) (by simpa using he3)
      obtain ⟨i0, hi0⟩ := hfind j0 j0 (Nat.le_refl _) hj0 hj1
      refine ⟨(fun hn => by rw [hn] at hi0; cases hi0), fun i hi => ?_⟩
      obtain ⟨h0, o, ho, hpre⟩ := mem_ready.1 hi
      have hin : i < ops.size := (Array.getElem?_eq_some_iff.1 ho).1
      have hls := hI.ls
      obtain ⟨_, hbody, htl⟩ := detOk_at hchk ho
      have him : i < m := by
        rcases Nat.lt_or_ge i m with h | h
        · exact h
        · exfalso
          obtain ⟨e, he1, he2, he3⟩ := htl h j0 (by omega)
          have := hpre e he1 he2
          rw [he3, getD_in (by omega), hj1] at this
          cases this
      obtain ⟨hsel, ⟨d, hd, hdu⟩, hlook⟩ := hbody him
      have hdi : dstAt ops i = some d := by unfold dstAt; rw [ho]; exact hd
      obtain ⟨B, c, hBs, hBd, hBl, hBc, hBo⟩ := hob i o him ho
      -- what the operation looks at reads as in B
      have hview : ∀ t ∈ o.looksAt ops, a'.tmps[t]? = B.tmps[t]? := by
        intro t ht
        rw [hBl t ht]
        by_cases h : ∃ j, j < m ∧ dstAt ops j = some t
        · obtain ⟨j, hj, hdj⟩ := h
          obtain ⟨e, he1, he2, he3⟩ := hlook t ht j hj hdj
          have hl := hpre e he1 he2
          rw [he3, getD_in (by omega)] at hl
          exact hI.done j t hj hl hdj
        · have hn : ∀ j, j < m → dstAt ops j ≠ some t := fun j hj hd => h ⟨j, hj, hd⟩
          rw [hfar t hn, hI.free t (fun j hj _ => hn j hj)]
      have heval : ∀ x ∈ o.op.operands, B.eval x = a'.eval x := by
        intro x hx
        cases x with
        | tmp t =>
          have ht : t ∈ o.looksAt ops := by
            unfold Oper.looksAt
            exact List.mem_append_left _ (List.mem_filterMap.2 ⟨.tmp t, by simpa using hx, rfl⟩)
          simp only [Act.eval]
          rw [Array.getD_eq_getD_getElem?, Array.getD_eq_getD_getElem?, hview t ht]
        | _ => rfl
      have hwant : Region.wanted o (yielded ops a'.tmps) = Region.wanted o (yielded ops B.tmps) := by
        unfold Region.wanted
        cases hg : o.guard with
        | none => rfl
        | some p =>
          obtain ⟨g, want⟩ := p
          simp only
          have : yielded ops a'.tmps g = yielded ops B.tmps g := by
            unfold yielded
            cases hgd : (ops[g]?).bind (·.dst) with
            | none => rfl
            | some t =>
              have ht : t ∈ o.looksAt ops := by
                unfold Oper.looksAt
                refine List.mem_append_right _ ?_
                simp only [hg]
                rw [hgd]
                simp
              simp only [Option.bind_some]
              rw [hview t ht]
          rw [this]
      have hexec : execOp a'.eval o = execOp B.eval o := (execOp_congr o hsel heval).symm
      have hOi := hBo w' hI.below
      -- the next state
      have next : ∀ v w'', B.put o.dst v = B.put o.dst c → Below w'.heap.size w' w'' → wpAny P .any ops Q fuel (listed.setIfInBounds i true) (a'.put o.dst v) w'' := by
        intro v w'' hv hb
        have hBc' := hBc d hd
        rw [hd] at hv hBc' ⊢
        refine ih _ _ _ ⟨fun j hj hjn => ?_, ext_trans hI.below hb, fun j d' hj hl hdj => ?_, fun t ht => ?_, ?_, by simpa using hls, hI.df⟩ ?_
        · rw [getD_set, if_neg (by omega)]
          exact hI.tail j hj hjn
        · by_cases hji : j = i
          · subst hji
            rw [hdi] at hdj
            obtain rfl := Option.some.inj hdj
            rw [← hBc', ← hv, put_at, if_pos rfl, put_at, if_pos rfl, hI.sz, hBs]
          · rw [getD_set, if_neg (fun h => hji h.symm)] at hl
            rw [put_at, if_neg (fun h => hdu j hj hji (by rw [hdj, h]))]
            exact hI.done j d' hj hl hdj
        · have hne : d ≠ t := fun h => ht i him (by rw [getD_set, if_pos rfl]) (by rw [hdi, h])
          rw [put_at, if_neg hne]
          refine hI.free t (fun j hj hl => ht j hj ?_)
          rw [getD_set]
          split
          · rfl
          · exact hl
        · simp only [Act.put]
          rw [Array.size_setIfInBounds]
          exact hI.sz
        · have : cntB m (listed.setIfInBounds i true) < cntB m listed := by
            refine countP_lt (fun x hx => ?_) (List.mem_range.2 him) ?_ ?_
            · rw [getD_set] at hx
              split at hx
              · cases hx
              · exact hx
            · rw [getD_set, if_pos rfl]; rfl
            · simp [h0]
          omega
      unfold wpOp
      rw [ho]
      simp only
      unfold wpList at hOi
      rw [hwant]
      split
      · rename_i hw
        rw [if_pos hw] at hOi
        refine .inl ?_
        rcases hOi with hOi | ⟨_, hl⟩
        · unfold Oper.wp at hOi ⊢
          rw [hexec]
          exact upon_det (put_sz _ _ _).2 hOi next
        · exact absurd hl no_letsOut
      · rename_i hw
        rw [if_neg hw] at hOi
        exact next undef w' hOi.2.1 (Below.refl _ _)
theorem chain_split {w : World} {T : Act → Prop} : ∀ (l : List Oper) (A : Act), ChainDet P ops w T l A → ∃ cs : List Value, cs.length = l.length ∧ T (putAll A l cs) ∧
    ∀ (i : Nat) (o : Oper), l[i]? = some o → ∃ c, cs[i]? = some c ∧ ∀ w', Below w.heap.size w w' → wpList P ops (QDet ((putAll A (l.take i) (cs.take i)).put o.dst c) w') [o] (putAll A (l.take i) (cs.take i)) w'
  | [], A, h => ⟨[], rfl, h, fun i o hi => by simp at hi⟩
  | x :: l, A, h => by
    obtain ⟨c, h1, h2⟩ := h
    obtain ⟨cs, hl, hT, hi⟩ := chain_split l _ h2
    refine ⟨c :: cs, by simp [hl], hT, fun i o ho => ?_⟩
    cases i with
    | zero =>
      simp at ho
      subst ho
      exact ⟨c, rfl, h1⟩
    | succ i => exact hi i o (by simpa using ho)
/-- A region that draws its order: its first m operations are walked one by one in the order of the text, each in a world that has grown; the others follow. -/
theorem wp_region_det {id : Nat} {a : Act} {w : World} (m : Nat) (hmix : P.follows .mixedOrders = true) (hchk : detOk ops m = true) (hm : m ≤ ops.size)
    (h : ChainDet P ops w (fun A => ∀ w', Below w.heap.size w w' → wpList P ops Q (ops.toList.drop m) A w') (ops.toList.take m) a) : (Code.region id ops true).wp P Q a w := by
  refine wp_region_any hmix ?_
  obtain ⟨cs, hl, hT, hi⟩ := chain_split _ _ h
  have hlen : (ops.toList.take m).length = m := by simp [hm]
  have hget : ∀ (j : Nat) (o : Oper), (ops.toList.take m)[j]? = some o ↔ j < m ∧ ops[j]? = some o := by
    intro j o
    rw [List.getElem?_take]
    by_cases hj : j < m
    · rw [if_pos hj]; simp [hj]
    · rw [if_neg hj]; simp [hj]
  have huniq : ∀ (j : Nat) (o : Oper) (d : Tmp), (ops.toList.take m)[j]? = some o → o.dst = some d → ∀ k o', k ≠ j → (ops.toList.take m)[k]? = some o' → o'.dst ≠ some d := by
    intro j o d hj hd k o' hk ho' hd'
    obtain ⟨hjm, hj'⟩ := (hget j o).1 hj
    obtain ⟨hkm, hk'⟩ := (hget k o').1 ho'
    obtain ⟨_, ⟨d2, hd2, hu⟩, _⟩ := (detOk_at hchk hj').2.1 hjm
    rw [hd] at hd2
    obtain rfl := Option.some.inj hd2
    exact hu k hkm hk (by unfold dstAt; rw [hk']; exact hd')
  have hfar : ∀ t : Nat, (∀ j, j < m → dstAt ops j ≠ some t) → (putAll a (ops.toList.take m) cs).tmps[t]? = a.tmps[t]? := by
    intro t ht
    refine putAll_far _ _ _ _ (fun o ho hd => ?_)
    obtain ⟨j, hj⟩ := List.mem_iff_getElem?.1 ho
    obtain ⟨hjm, hj'⟩ := (hget j o).1 hj
    exact ht j hjm (by unfold dstAt; rw [hj']; exact hd)
  have hsz := putAll_sz (ops.toList.take m) cs a
  refine det_any (m := m) (a := a) (A := putAll a (ops.toList.take m) cs) (w0 := w) hchk hm hsz.1 hsz.2 hfar (fun i o him ho => ?_) hT ops.size _ a _ ⟨fun j _ hj => by simp [hj], (Below.refl _ w).drew, fun j d hj hl => ?_, fun _ _ => rfl, rfl, by simp, rfl⟩ ?_
  · obtain ⟨c, hc, hw⟩ := hi i o ((hget i o).2 ⟨him, ho⟩)
    have hsi := putAll_sz ((ops.toList.take m).take i) (cs.take i) a
    obtain ⟨_, hbody, _⟩ := detOk_at hchk ho
    obtain ⟨_, ⟨d, hd, _⟩, hlook⟩ := hbody him
    refine ⟨_, c, hsi.1, hsi.2, fun t ht => ?_, fun d' hd' => ?_, hw⟩
    · by_cases h : ∃ j, j < m ∧ dstAt ops j = some t
      · obtain ⟨j, hj, hdj⟩ := h
        obtain ⟨e, he1, he2, he3⟩ := hlook t ht j hj hdj
        have hji := (detOk_at hchk ho).1 e he1 he2
        rw [he3] at hji
        have hjn : j < ops.size := by omega
        have hoj : ops[j]? = some ops[j] := Array.getElem?_eq_getElem hjn
        have hdj' : ops[j].dst = some t := by unfold dstAt at hdj; rw [hoj] at hdj; exact hdj
        have hlj := (hget j _).2 ⟨hj, hoj⟩
        rw [putAll_at _ _ _ j _ t hl hlj hdj' (huniq j _ t hlj hdj')]
        rw [putAll_at _ _ _ j ops[j] t (by simp [hl]) (by rw [List.getElem?_take, if_pos hji]; exact hlj) hdj' (fun k o' hk ho' => huniq j _ t hlj hdj' k o' hk (by
          rw [List.getElem?_take] at ho'
          split at ho'
          · exact ho'
          · cases ho'))]
        rw [List.getElem?_take, if_pos hji]
      · have hn : ∀ j, j < m → dstAt ops j ≠ some t := fun j hj hd => h ⟨j, hj, hd⟩
        rw [hfar t hn]
        refine putAll_far _ _ _ _ (fun o' ho' hd' => ?_)
        obtain ⟨j, hj⟩ := List.mem_iff_getElem?.1 (List.mem_of_mem_take ho')
        obtain ⟨hjm, hj'⟩ := (hget j o').1 hj
        exact hn j hjm (by unfold dstAt; rw [hj']; exact hd')
    · have hli := (hget i o).2 ⟨him, ho⟩
      rw [putAll_at _ _ _ i o d' hl hli hd' (huniq i o d' hli hd'), hd', put_at, if_pos rfl, hsi.1, hc]
  · exfalso
    have : j < ops.size := by omega
    simp [this] at hl
  · unfold cntB
    have := List.countP_le_length (p := fun j => !(Array.replicate ops.size false).getD j true) (l := List.range m)
    rw [List.length_range] at this
    omega
end
end Go.Proofs.YtmhlnbihppojmaaGreat
namespace Go.Proofs.YtmhlnbihppojmaaGreat
open Go.RowKit
set_option maxRecDepth 4000 in
theorem c_laws_markText (x : Int) (w : World) (h1 : 0 < x) (h2 : x ≤ 4611686018427387904) :
    Calls Tryz.prog 134 #[.int .i64 x] w fun e w' => e = .returned (.string (mkI x)) ∧ Below w.heap.size w w' := by
  have Hm := Lib.hid (show mkI x = ⟨#[109]⟩ ++ mkL x.toNat ⟨#[]⟩ from rfl)
  go_enter Tryz.func134, Tryz.ntmps134
  go_wp2_with fail
  go_loopw [0, 3] (fun y o wr => ∃ (j : Nat) (out : ByteArray), y = .int .i64 j ∧ o = .string out ∧ mkL j out = mkL x.toNat ⟨#[]⟩ ∧ out.size + j ≤ x.toNat ∧ Below w.heap.size w wr) (fun y _ _ => (intOf y).toNat)
  case atStart => exact ⟨x.toNat, ⟨#[]⟩, (by congr 1; omega), rfl, rfl, by show 0 + _ ≤ _; omega, bel⟩
  case round =>
    obtain ⟨j, out, rfl, rfl, hm, hs, hbr⟩ := hrel
    have Hj := Lib.hid hm
    clear hm
    by_cases hj : 0 < j
    · have hj2 : (0 : Int) < j := by omega
      have hj3 : (j : Int) ≤ 4611686018427387904 := by omega
      have hcv : (convert 22 9 (.slice (some ⟨wr.heap.size, 0, none⟩) 1 1)).run Tryz.prog (wr.alloc (.cells #[.int .u8 (48 + (j : Int) % 10)] 5)) = .ok (.string (digit j)) (wr.alloc (.cells #[.int .u8 (48 + (j : Int) % 10)] 5)) := by
        refine run_convert_bytes_back (P := Tryz.prog) _ 22 9 5 ⟨wr.heap.size, 0, none⟩ 1 [UInt8.ofNat (48 + j % 10)] Tryz.underlying22 Tryz.underlying5 Tryz.underlying9 (fun i hi => ?_)
        obtain rfl : i = 0 := by simpa using hi
        have e : ((UInt8.ofNat (48 + j % 10)).toNat : Int) = 48 + (j : Int) % 10 := by
          rw [UInt8.toNat_ofNat']; omega
        have e2 : (⟨wr.heap.size, 0, none⟩ : Addr).add 0 = ⟨wr.heap.size, 0, none⟩ := rfl
        rw [e2, World.cell?_alloc_mark]
        simp only [List.getElem_cons_zero, e]
        rfl
      have hd1 : (digit j).size = 1 := rfl
      have Hn := Lib.hid (show mkL (j / 10) (digit j ++ out) = mkL x.toNat ⟨#[]⟩ by rw [← Hj.out, mkL_pos j out hj])
      have Hz := Lib.hid (show (digit j ++ out).size + j / 10 ≤ x.toNat by rw [ByteArray.size_append, hd1]; omega)
      go_wp2_with fail
      go_roundw
      case rel => exact ⟨j / 10, digit j ++ out, by go_num, rfl, Hn.out, Hz.out, bel⟩
      case measure => simp [intOf]; omega
    · obtain rfl : j = 0 := by omega
      have Hf := Lib.hid (show mkI x = ⟨#[109]⟩ ++ out by rw [Hm.out, ← Hj.out, mkL_zero])
      go_wp2_with fail
      go_ret
      exact ⟨by rw [Hf.out]; rfl, bel⟩
theorem c_laws_markStringS (l : List ByteArray) (v : Value) (x : Int) (w : World) (S : Nat → Prop) (h : OwnS S w l v) (hSb : ∀ b, S b → b < w.heap.size) (h1 : 0 < x) (h2 : x + l.length ≤ 2305843009213693952) :
    Calls Tryz.prog 135 #[v, .int .i64 x] w fun e w' => ∃ l', e = .returned (.int .i64 (x + l.length)) ∧ l'.length = l.length ∧ OwnS S w' l' v ∧ MkSs x l' ∧ Aside S w w' := by
  obtain ⟨A, c, rfl, hlc, hc, hA⟩ := h
  by_cases hz : l.length = 0
  · obtain rfl : l = [] := List.eq_nil_of_length_eq_zero hz
    clear hA
    go_enter Tryz.func135, Tryz.ntmps135
    go_wp2_with fail
    go_loopw [1, 5] (fun y i wr => y = .int .i64 x ∧ i = .int .i64 0 ∧ wr = w) (fun _ _ _ => 0)
    case atStart => exact ⟨rfl, rfl, rfl⟩
    case round =>
      obtain ⟨rfl, rfl, rfl⟩ := hrel
      go_wp2_with fail
      go_ret
      exact ⟨[], ret_int (by simp), rfl, ⟨A, c, rfl, by simp, hc, fun h => by simp at h⟩, fun i s h => by simp at h, Aside.refl _ _⟩
  · obtain ⟨g, cur, rfl, hg, hr, hcur⟩ := hA (by omega)
    have hgl := hSb g hg
    go_enter Tryz.func135, Tryz.ntmps135
    go_wp2_with fail
    go_loopw [1, 5] (fun y i wr => ∃ (k : Nat) (l' : List ByteArray) (cur' : Array Value), k ≤ l.length ∧ l'.length = l.length ∧ i = .int .i64 k ∧ y = .int .i64 (x + k) ∧ wr.heap[g]? = some (.cells cur' 9 (0, 0)) ∧ (∀ (i : Nat) (s : ByteArray), l'[i]? = some s → cur'[i]? = some (Value.string s) ∧ s.size ≤ 9223372036854775807) ∧ (∀ (j : Nat) (s : ByteArray), j < k → l'[j]? = some s → s = mkI (x + j)) ∧ Aside S w wr) (fun _ i _ => l.length - (intOf i).toNat)
    case atStart => exact ⟨0, l, cur, Nat.zero_le _, rfl, rfl, by simp, hr, hcur, fun j s h => by omega, Aside.refl _ _⟩
    case round =>
      obtain ⟨k, l', cur', hk, hl', rfl, rfl, hr', hcur', hmk, has⟩ := hrel
      have Hc := Lib.hid hcur'
      have Hm := Lib.hid hmk
      clear hcur' hmk hcur hA
      by_cases hlt : k < l.length
      · obtain ⟨d, hd⟩ := exists_at (l := l') (k := k) (by omega)
        have hx0 : wr.cell? ⟨g, k, none⟩ = some (.string d) := by rw [cell_of_row wr g _ cur' _ _ hr']; exact (Hc.out k d hd).1
        have hf0 := frozen_row hr' k
        have hgw := row_lt hr'
        have hk1 : (k : Int) < l.length := by omega
        go_wp2_with (first | (go_at_call 134; refine (c_laws_markText _ _ (by omega) (by omega)).mono ?_; rintro e w1 ⟨rfl, hb⟩; (first | (have hcu2 := Cum.join hcu hb; (try clear hcu); (try clear hc); (try clear hfz); (try clear hsz); (try clear hs0); (try clear hs1); (try clear hs2); (try clear hs3); (try clear hs4); ) | have hcu2 := Cum.mk hb); have hcu := hcu2; clear hcu2; obtain ⟨hc, hfz⟩ := bcell hcu.h; have hsz := hcu.h.size; (try simp at hsz); (try have hs0 := lt_of_succ_le hsz); (try (have hs1 := lt_pred hsz; (try (have hs2 := lt_pred hs1; (try (have hs3 := lt_pred hs2; (try have hs4 := lt_pred hs3)))))))))
        go_roundw
        case rel =>
          refine ⟨k + 1, l'.set k (mkI (x + k)), cur'.setIfInBounds k (.string (mkI (x + k))), by omega, by simp [hl'], by go_num, by go_num, heap_setCell_same _ _ _ _ _ _ ((hb.block _ hgw).trans hr'), fun i s h => ?_, fun j s hj h => ?_, ?_⟩
          · have hkc : k < cur'.size := (Array.getElem?_eq_some_iff.1 (Hc.out k d hd).1).1
            rw [List.getElem?_set] at h
            rw [Array.getElem?_setIfInBounds]
            by_cases he : k = i
            · subst he
              rw [if_pos rfl, if_pos (by omega)] at h
              rw [if_pos rfl, if_pos hkc]
              obtain rfl := Option.some.inj h
              exact ⟨rfl, mkI_size _ (by omega)⟩
            · rw [if_neg he] at h
              rw [if_neg he]
              exact Hc.out i s h
          · rw [List.getElem?_set] at h
            by_cases he : k = j
            · subst he
              rw [if_pos rfl, if_pos (by omega)] at h
              exact (Option.some.inj h).symm
            · rw [if_neg he] at h
              exact Hm.out j s (by omega) h
          · exact Aside.setCell (has.trans (Aside.of_below hb)) hg
        case measure => simp [intOf]; omega
      · obtain rfl : k = l.length := by omega
        go_wp2_with fail
        go_ret
        exact ⟨l', rfl, hl', ⟨_, c, by rw [hl'], by omega, hc, fun _ => ⟨g, cur', rfl, hg, hr', Hc.out⟩⟩, fun i s h => Hm.out i s (by have := (List.getElem?_eq_some_iff.1 h).1; omega) h, has⟩
theorem c_laws_heldStringS (l : List ByteArray) (v : Value) (x : Int) (w : World) (lo : Nat) (hs : Sl_Str lo w.heap.size w l v) (hm : MkSs x l) (h1 : 0 < x) (h2 : x + l.length ≤ 2305843009213693952) :
    Calls Tryz.prog 136 #[v, .int .i64 x] w fun e w' => e = .returned (.int .i64 (x + l.length)) ∧ Below w.heap.size w w' := by
  obtain ⟨A, c, rfl, hlc, hc, hA⟩ := hs
  have Hm := Lib.hid hm
  clear hm
  go_enter Tryz.func136, Tryz.ntmps136
  go_wp2_with fail
  go_loopw [1, 5] (fun y i wr => ∃ k : Nat, k ≤ l.length ∧ i = .int .i64 k ∧ y = .int .i64 (x + k) ∧ Below w.heap.size w wr) (fun _ i _ => l.length - (intOf i).toNat)
  case atStart => exact ⟨0, Nat.zero_le _, rfl, by simp, bel⟩
  case round =>
    obtain ⟨k, hk, rfl, rfl, hbr⟩ := hrel
    by_cases hlt : k < l.length
    · obtain ⟨b, o, rfl, -, hb2, hcell⟩ := hA (by omega)
      obtain ⟨d, hd⟩ := exists_at hlt
      obtain ⟨es, -, hcs, hC⟩ := hcell k d hd
      obtain ⟨rfl, ea0⟩ := hC
      obtain rfl := Hm.out k d hd
      have hc0 := (hbr.cell (p := ⟨b, o + k * 1 + 0, none⟩) (by simp; omega)).trans (hcs 0 (by omega))
      simp at hc0
      have hbl : b < wr.heap.size := Nat.lt_of_lt_of_le hb2 hbr.size
      have hk0 : (0 : Int) ≤ k := by omega
      have hk1 : (k : Int) < l.length := by omega
      clear hcs hcell hA hd
      go_wp2_with fail
      refine wp_region_det 7 (by kernel_rfl) (by kernel_rfl) (by decide) ?_
      apply Exists.intro
      refine And.intro ?_ ?_
      · (intro W hW; (try simp only [Act.put, List.setIfInBounds_toArray, List.set_cons_zero, List.set_cons_succ]); first | (go_wp2_with fail; exact ⟨rfl, rfl, Below.refl _ _⟩))
      apply Exists.intro
      refine And.intro ?_ ?_
      · (intro W hW; (try simp only [Act.put, List.setIfInBounds_toArray, List.set_cons_zero, List.set_cons_succ]); first | (go_wp2_with fail; exact ⟨rfl, rfl, Below.refl _ _⟩))
      apply Exists.intro
      refine And.intro ?_ ?_
      · (intro W hW; (try simp only [Act.put, List.setIfInBounds_toArray, List.set_cons_zero, List.set_cons_succ]); first | (go_wp2_with fail; exact ⟨rfl, rfl, Below.refl _ _⟩))
      apply Exists.intro
      refine And.intro ?_ ?_
      · (intro W hW; (try simp only [Act.put, List.setIfInBounds_toArray, List.set_cons_zero, List.set_cons_succ]); first | (obtain ⟨hcW, hfW⟩ := bcell hW; have hsW := hW.size; (try simp at hsW); (try have hsW0 := lt_of_succ_le hsW); (try (have hsW1 := lt_pred hsW; (try (have hsW2 := lt_pred hsW1)))); go_wp2_with fail; exact ⟨rfl, rfl, Below.refl _ _⟩))
      apply Exists.intro
      refine And.intro ?_ ?_
      · (intro W hW; (try simp only [Act.put, List.setIfInBounds_toArray, List.set_cons_zero, List.set_cons_succ]); first | (go_wp2_with fail; exact ⟨rfl, rfl, Below.refl _ _⟩))
      apply Exists.intro
      refine And.intro ?_ ?_
      · (intro W hW; (try simp only [Act.put, List.setIfInBounds_toArray, List.set_cons_zero, List.set_cons_succ]); first | (obtain ⟨hcW, hfW⟩ := bcell hW; have hsW := hW.size; (try simp at hsW); (try have hsW0 := lt_of_succ_le hsW); (try (have hsW1 := lt_pred hsW; (try (have hsW2 := lt_pred hsW1)))); go_wp2_with (first | (go_at_call 134; refine (c_laws_markText _ _ (by omega) (by omega)).mono ?_; rintro e w9 ⟨rfl, hb9⟩)); exact ⟨rfl, rfl, bel⟩))
      apply Exists.intro
      refine And.intro ?_ ?_
      · (intro W hW; (try simp only [Act.put, List.setIfInBounds_toArray, List.set_cons_zero, List.set_cons_succ]); first | (go_wp2_with fail; exact ⟨rfl, rfl, Below.refl _ _⟩))
      intro w1 hb
      (first | (have hcu2 := Cum.join hcu hb; (try clear hcu); (try clear hc); (try clear hfz); (try clear hsz); (try clear hs0); (try clear hs1); (try clear hs2); (try clear hs3); (try clear hs4); ) | have hcu2 := Cum.mk hb); have hcu := hcu2; clear hcu2; obtain ⟨hc, hfz⟩ := bcell hcu.h; have hsz := hcu.h.size; (try simp at hsz); (try have hs0 := lt_of_succ_le hsz); (try (have hs1 := lt_pred hsz; (try (have hs2 := lt_pred hs1; (try (have hs3 := lt_pred hs2; (try have hs4 := lt_pred hs3)))))))
      (try simp only [Act.put, List.setIfInBounds_toArray, List.set_cons_zero, List.set_cons_succ])
      (try simp only [List.drop_succ_cons, List.drop_nil])
      go_wp2_with fail
      go_roundw
      case rel => exact ⟨k + 1, by omega, by go_num, by go_num, bel⟩
      case measure => simp [intOf]; omega
    · obtain rfl : k = l.length := by omega
      clear hA
      go_wp2_with fail
      go_ret
      exact ⟨rfl, bel⟩
end Go.Proofs.YtmhlnbihppojmaaGreat
namespace Go.Proofs.YtmhlnbihppojmaaGreat
open Go.RowKit
def RowAt {D : Type} (C : D → List Value → Prop) (sz : Nat) (cur : Array Value) (l : List D) : Prop := ∀ i d, l[i]? = some d → ∃ es, es.length = sz ∧ (∀ j, j < sz → cur[i * sz + j]? = es[j]?) ∧ C d es
/-- v is a slice of the structs l, in one row of a block of S. -/
def OwnR {D : Type} (C : D → List Value → Prop) (sz ty : Nat) (S : Nat → Prop) (w : World) (l : List D) (v : Value) : Prop :=
  ∃ A c, v = .slice A l.length c ∧ l.length ≤ c ∧ c ≤ 9223372036854775807 ∧ (0 < l.length → ∃ g cur, A = some ⟨g, 0, none⟩ ∧ S g ∧ w.heap[g]? = some (.cells cur ty (0, 0)) ∧ RowAt C sz cur l)
theorem OwnR.form {D : Type} {C : D → List Value → Prop} {sz ty : Nat} {S : Nat → Prop} {w : World} {l : List D} {v : Value} (h : OwnR C sz ty S w l v) : ∃ A c, v = .slice A l.length c := by
  obtain ⟨A, c, hv, _⟩ := h
  exact ⟨A, c, hv⟩
theorem OwnR.carry {D : Type} {C : D → List Value → Prop} {sz ty : Nat} {S S' : Nat → Prop} {w w' : World} {l : List D} {v : Value} (h : OwnR C sz ty S w l v) (hs : ∀ b, S b → w'.heap[b]? = w.heap[b]?) (hS : ∀ b, S b → S' b) : OwnR C sz ty S' w' l v := by
  obtain ⟨A, c, hv, h1, h2, h3⟩ := h
  refine ⟨A, c, hv, h1, h2, fun hp => ?_⟩
  obtain ⟨g, cur, hA, hg, hr, hc⟩ := h3 hp
  exact ⟨g, cur, hA, hS g hg, (hs g hg).trans hr, hc⟩
theorem OwnR.toC {D : Type} {C : D → List Value → Prop} {sz ty lo hi : Nat} {S : Nat → Prop} {w : World} {l : List D} {v : Value} (h : OwnR C sz ty S w l v) (hS : ∀ b, S b → lo ≤ b ∧ b < hi) : SlOf C sz lo hi w l v := by
  obtain ⟨A, c, rfl, h1, h2, h3⟩ := h
  refine ⟨A, c, rfl, h1, h2, fun hp => ?_⟩
  obtain ⟨g, cur, rfl, hg, hr, hc⟩ := h3 hp
  refine ⟨g, 0, rfl, (hS g hg).1, (hS g hg).2, fun i d hd => ?_⟩
  obtain ⟨es, e1, e2, e3⟩ := hc i d hd
  refine ⟨es, e1, fun j hj => ?_, e3⟩
  rw [cell_of_row w g _ cur _ _ hr, Nat.zero_add]
  exact e2 j hj
theorem OwnR.of_part {D : Type} {C : D → List Value → Prop} {sz ty g c : Nat} {S : Nat → Prop} {w : World} {l : List D} {cs : Array Value} (h : Part C sz l l.length cs) (hg : w.heap[g]? = some (.cells cs ty (0, 0))) (hS : S g) (hc : l.length ≤ c) (hc2 : c ≤ 9223372036854775807) : OwnR C sz ty S w l (.slice (some ⟨g, 0, none⟩) l.length c) :=
  ⟨_, c, rfl, hc, hc2, fun _ => ⟨g, cs, rfl, hS, hg, fun i d hd => h.2 i d (List.getElem?_eq_some_iff.1 hd).1 hd⟩⟩
theorem RowAt.set {D : Type} {C : D → List Value → Prop} {sz : Nat} {cur : Array Value} {l : List D} (h : RowAt C sz cur l) {k : Nat} {d' : D} {es' : List Value} (hl : es'.length = sz) (hC : C d' es') (hk : k * sz + sz ≤ cur.size) : RowAt C sz (putAt cur (k * sz) es') (l.set k d') := by
  intro i d hd
  rw [List.getElem?_set] at hd
  by_cases he : k = i
  · subst he
    rw [if_pos rfl] at hd
    by_cases hkl : k < l.length
    · rw [if_pos hkl] at hd
      obtain rfl := Option.some.inj hd
      exact ⟨es', hl, fun j hj => get_putAt _ _ _ j (by omega) (by omega), hC⟩
    · rw [if_neg hkl] at hd; cases hd
  · rw [if_neg he] at hd
    obtain ⟨es, e1, e2, e3⟩ := h i d hd
    refine ⟨es, e1, fun j hj => ?_, e3⟩
    rw [← e2 j hj]
    rcases Nat.lt_or_ge i k with h1 | h1
    · have := Nat.mul_le_mul_right sz h1
      rw [Nat.succ_mul] at this
      rw [get_putAt_lt _ _ _ _ (by omega)]
    · have h2 : k < i := by omega
      have := Nat.mul_le_mul_right sz h2
      rw [Nat.succ_mul] at this
      rw [get_putAt_ge _ _ _ _ (by omega)]
theorem RowAt.size {D : Type} {C : D → List Value → Prop} {sz : Nat} {cur : Array Value} {l : List D} (h : RowAt C sz cur l) {k : Nat} {d : D} (hd : l[k]? = some d) (hz : 0 < sz) : k * sz + sz ≤ cur.size := by
  obtain ⟨es, e1, e2, -⟩ := h k d hd
  have h3 := e2 (sz - 1) (by omega)
  rw [List.getElem?_eq_getElem (by omega)] at h3
  have := (Array.getElem?_eq_some_iff.1 h3).1
  omega
end Go.Proofs.YtmhlnbihppojmaaGreat
namespace Go.Proofs.YtmhlnbihppojmaaGreat
open Go.RowKit
def flatE {D : Type} (enc : D → List Value) (l : List D) : List Value := (l.map enc).flatten
/-- v is a row of the call's own, behind block base, that holds the members l. -/
def RowE {D : Type} (enc : D → List Value) (sz : Nat) (ty : TypeId) (base : Nat) (w : World) (l : List D) (v : Value) : Prop := w.ownsRow base ty sz v l.length (flatE enc l)
theorem enc_six {D : Type} {enc : D → List Value} {sz : Nat} (hk : ∀ d, (enc d).length = sz) (l : List D) : ∀ es ∈ l.map enc, es.length = sz := by
  intro es h
  obtain ⟨d, -, rfl⟩ := List.mem_map.1 h
  exact hk d
theorem flat_getN {sz : Nat} : ∀ (css : List (List Value)) (i : Nat) (es : List Value) (j : Nat), (∀ es ∈ css, es.length = sz) → css[i]? = some es → j < sz → css.flatten[i * sz + j]? = es[j]?
  | [], i, es, j, _, h, _ => by cases h
  | c :: css, 0, es, j, h6, h, hj => by
    simp at h
    subst h
    have := h6 c (by simp)
    rw [List.flatten_cons, Nat.zero_mul, Nat.zero_add, List.getElem?_append_left (by omega)]
  | c :: css, i + 1, es, j, h6, h, hj => by
    have hc := h6 c (by simp)
    have ih := flat_getN css i es j (fun es h => h6 es (by simp [h])) (by simpa using h) hj
    rw [List.flatten_cons, List.getElem?_append_right (by rw [hc, Nat.succ_mul]; omega), ← ih]
    congr 1
    rw [hc, Nat.succ_mul]
    omega
theorem flat_lenN {sz : Nat} : ∀ (css : List (List Value)), (∀ es ∈ css, es.length = sz) → css.flatten.length = css.length * sz
  | [], _ => by simp
  | c :: css, h => by
    rw [List.flatten_cons, List.length_append, flat_lenN css (fun es he => h es (by simp [he])), h c (by simp), List.length_cons, Nat.succ_mul]
    omega
theorem flatE_len {D : Type} {enc : D → List Value} {sz : Nat} (hk : ∀ d, (enc d).length = sz) (l : List D) : (flatE enc l).length = l.length * sz := by
  unfold flatE
  rw [flat_lenN (l.map enc) (enc_six hk l), List.length_map]
theorem flatE_at {D : Type} {enc : D → List Value} {sz : Nat} (hk : ∀ d, (enc d).length = sz) {l : List D} {i : Nat} {d : D} (h : l[i]? = some d) {j : Nat} (hj : j < sz) : (flatE enc l)[i * sz + j]? = (enc d)[j]? :=
  flat_getN (l.map enc) i (enc d) j (enc_six hk l) (by rw [List.getElem?_map, h]; rfl) hj
theorem flatE_app {D : Type} (enc : D → List Value) (l m : List D) : flatE enc (l ++ m) = flatE enc l ++ flatE enc m := by simp [flatE]
theorem RowE.form {D : Type} {enc : D → List Value} {sz ty base : Nat} {w : World} {l : List D} {v : Value} (h : RowE enc sz ty base w l v) : ∃ A c, v = .slice A l.length c := own_form h
theorem RowE.carry {D : Type} {enc : D → List Value} {sz ty base : Nat} {w w' : World} {l : List D} {v : Value} (h : RowE enc sz ty base w l v) (hs : ∀ q, v.ownBlock = some q → w'.heap[q]? = w.heap[q]?) : RowE enc sz ty base w' l v := ownsRow_carry h hs
theorem RowE.less {D : Type} {enc : D → List Value} {sz ty base base' : Nat} {w : World} {l : List D} {v : Value} (h : RowE enc sz ty base w l v) (hb : base' ≤ base) : RowE enc sz ty base' w l v := own_less h hb
theorem RowE.below {D : Type} {enc : D → List Value} {sz ty base : Nat} {w w' : World} {l : List D} {v : Value} (h : RowE enc sz ty base w l v) (hb : Below w.heap.size w w') : RowE enc sz ty base w' l v := h.carry (fun q hq => hb.block q (World.ownsRow.lt h q hq).2)
/-- The row of a member that is there. -/
theorem RowE.row {D : Type} {enc : D → List Value} {sz ty base : Nat} {w : World} {l : List D} {v : Value} (hk : ∀ d, (enc d).length = sz) (h : RowE enc sz ty base w l v) (hp : 0 < l.length) : ∃ g cap cur, v = .slice (some ⟨g, 0, none⟩) l.length cap ∧ base ≤ g ∧ w.heap[g]? = some (.cells cur ty (0, 0)) ∧ l.length ≤ cap ∧ cap ≤ 9223372036854775807 ∧ l.length * sz ≤ cur.size ∧ ∀ i d, l[i]? = some d → ∀ j, j < sz → cur[i * sz + j]? = (enc d)[j]? := by
  obtain ⟨hl, h1⟩ := h
  rcases h1 with ⟨rfl, h0⟩ | ⟨g, cap, cur, rfl, hb, hg, hn, hcm, hcs, ht⟩
  · omega
  · refine ⟨g, cap, cur, rfl, hb, hg, hn, by unfold maxLen at hcm; omega, by rw [hcs]; exact Nat.mul_le_mul_right _ hn, fun i d hd j hj => ?_⟩
    have hi : i < l.length := (List.getElem?_eq_some_iff.1 hd).1
    have h2 := Nat.mul_le_mul_right sz hi
    rw [Nat.succ_mul] at h2
    have : (cur.toList.take (l.length * sz))[i * sz + j]? = (flatE enc l)[i * sz + j]? := by rw [ht]
    rw [List.getElem?_take, if_pos (by omega), Array.getElem?_toList, flatE_at hk hd hj] at this
    exact this
theorem RowE.own {D : Type} {enc : D → List Value} {sz ty base : Nat} {w : World} {l : List D} {v : Value} {C : D → List Value → Prop} (hk : ∀ d, (enc d).length = sz) (h : RowE enc sz ty base w l v) (hC : ∀ d ∈ l, C d (enc d)) : OwnR C sz ty (fun b => v.ownBlock = some b) w l v := by
  by_cases hp : 0 < l.length
  · obtain ⟨g, cap, cur, rfl, -, hg, h1, h2, -, h4⟩ := h.row hk hp
    exact ⟨_, cap, rfl, h1, h2, fun _ => ⟨g, cur, rfl, rfl, hg, fun i d hd => ⟨enc d, hk d, h4 i d hd, hC d (List.mem_of_getElem? hd)⟩⟩⟩
  · rcases h.2 with ⟨rfl, h0⟩ | ⟨g, cap, cur, rfl, hb, hg, hn, hcm, hcs, ht⟩
    · exact ⟨none, 0, by rw [h0], by omega, by decide, fun h => absurd h hp⟩
    · exact ⟨_, cap, rfl, hn, by unfold maxLen at hcm; omega, fun h => absurd h hp⟩
theorem RowE.sl {D : Type} {enc : D → List Value} {sz ty base : Nat} {w : World} {l : List D} {v : Value} {C : D → List Value → Prop} (hk : ∀ d, (enc d).length = sz) (h : RowE enc sz ty base w l v) (hC : ∀ d ∈ l, C d (enc d)) : SlOf C sz base w.heap.size w l v :=
  (h.own hk hC).toC (fun b hb => World.ownsRow.lt h b hb)
theorem RowE.nil {D : Type} {enc : D → List Value} {sz ty base : Nat} {w : World} : RowE enc sz ty base w [] (.slice none 0 0) := ⟨by simp [flatE], .inl ⟨rfl, rfl⟩⟩
theorem one_flat {D : Type} {enc : D → List Value} (h1 : ∀ d, ∀ v ∈ enc d, v.oneCell' = true) (l : List D) : ∀ u ∈ flatE enc l, u.oneCell' = true := by
  intro u hu
  unfold flatE at hu
  obtain ⟨es, h2, h3⟩ := List.mem_flatten.1 hu
  obtain ⟨d, -, rfl⟩ := List.mem_map.1 h2
  exact h1 d u h3
/-- The cells of a slice that came in, read as cells to be appended. -/
theorem news_of {D : Type} {enc : D → List Value} {sz lo hi : Nat} {w : World} {l : List D} {b o c : Nat} {C : D → List Value → Prop} (hk : ∀ d, (enc d).length = sz) (hs : 0 < sz) (h : SlOf C sz lo hi w l (.slice (some ⟨b, o, none⟩) l.length c)) (hC : ∀ d es, C d es → es = enc d) (hp : 0 < l.length) : ∀ j u, (flatE enc l)[j]? = some u → w.cell? ((⟨b, o, none⟩ : Addr).add j) = some u := by
  obtain ⟨A, c', hv, -, -, hA⟩ := h
  obtain ⟨b', o', rfl, -, -, hc⟩ := hA hp
  simp only [Value.slice.injEq, Option.some.injEq, Addr.mk.injEq, and_true] at hv
  obtain ⟨⟨rfl, rfl⟩, -⟩ := hv
  intro j u hu
  have hadd : (⟨b, o, none⟩ : Addr).add j = ⟨b, o + j, none⟩ := by unfold Addr.add; split <;> simp_all
  have hjl : j < l.length * sz := by
    have := (List.getElem?_eq_some_iff.1 hu).1
    rwa [flatE_len hk] at this
  have hi : j / sz < l.length := by rwa [Nat.div_lt_iff_lt_mul hs]
  obtain ⟨d, hd⟩ := exists_at hi
  obtain ⟨es, -, h2, h3⟩ := hc (j / sz) d hd
  obtain rfl := hC d es h3
  have hj : j = j / sz * sz + j % sz := by rw [Nat.mul_comm]; exact (Nat.div_add_mod j sz).symm
  have h4 := h2 (j % sz) (Nat.mod_lt _ hs)
  have h5 := flatE_at hk hd (Nat.mod_lt j hs)
  rw [← hj] at h5
  rw [hadd]
  rw [Nat.add_assoc, ← hj] at h4
  rw [h4, ← h5, hu]
/-- Appending a slice that came in to a row of the call's own. -/
theorem run_append_rows {P : Program} {D : Type} {enc : D → List Value} {C : D → List Value → Prop} (w : World) (t ty : TypeId) (base : Nat) (e : TypeId) (i : TypeInfo) (z : Value) (sz bytes : Nat) (ht : P.underlying t = some (.slice e)) (hi : P.info? e = some i) (hz : i.zero = some z)
    (hsize : i.size = sz) (hby : i.bytes = bytes) (hzs : z.cells.size = sz) (hsz : 0 < sz) (hk : ∀ d, (enc d).length = sz) (h1 : ∀ d, ∀ v ∈ enc d, v.oneCell' = true) (hC : ∀ d es, C d es → es = enc d) (v : Value) (n : Nat) (xs : List D) (hn : xs.length = n) (hown : RowE enc sz e base w xs v)
    (l : List D) (A : Option Addr) (m c lo hi' : Nat) (hm : l.length = m) (hl : SlOf C sz lo hi' w l (.slice A m c)) (h63 : n + m ≤ maxLen) (hbytes : (n + m) * bytes ≤ 140737488355328) (hbase : base ≤ w.heap.size) :
    ∃ v' w', (Builtin.append_ #[t, t] ty #[v, .slice A m c]).run P w = .ok v' w' ∧ RowE enc sz e base w' (xs ++ l) v' ∧ w.grownBy w' v.ownBlock ∧ (v'.ownBlock = v.ownBlock ∨ v'.ownBlock = some w.heap.size) := by
  subst hn hm
  have fin : ∀ v' w', w'.ownsRow base e sz v' (xs.length + l.length) (flatE enc xs ++ flatE enc l) → RowE enc sz e base w' (xs ++ l) v' := fun v' w' h => by
    unfold RowE
    rw [flatE_app, List.length_append]
    exact h
  by_cases hp : 0 < l.length
  · have hl2 := hl
    obtain ⟨A', c', hv, -, -, hA⟩ := hl
    obtain ⟨b, off, rfl, -⟩ := hA hp
    simp only [Value.slice.injEq] at hv
    obtain ⟨rfl, -, rfl⟩ := hv
    obtain ⟨v', w', hr, h2, h3, _, h5⟩ := run_append_own_at (P := P) w base t ty e i z sz bytes ht hi hz hsize hby hzs hsz v xs.length (flatE enc xs) hown ⟨b, off, none⟩ l.length c (flatE enc l) (flatE_len hk l) (news_of hk hsz hl2 hC hp) (one_flat h1 l) h63 hbytes hbase
    exact ⟨v', w', hr, fin v' w' h2, h3, h5⟩
  · obtain rfl : l = [] := List.eq_nil_of_length_eq_zero (by omega)
    rcases A with _ | ad
    · exact ⟨v, w, run_append_none w t ty base e i sz ht hi v xs.length (flatE enc xs) hown c, by simpa using hown, World.grownBy.refl _ _, .inl rfl⟩
    · obtain ⟨v', w', hr, h2, h3, _, h5⟩ := run_append_own_at (P := P) w base t ty e i z sz bytes ht hi hz hsize hby hzs hsz v xs.length (flatE enc xs) hown ad 0 c [] (by simp) (fun j u h => by simp at h) (fun u h => by simp at h) h63 hbytes hbase
      exact ⟨v', w', hr, fin v' w' (by simpa [flatE] using h2), h3, h5⟩
theorem step_append_rows {P : Program} {D : Type} {enc : D → List Value} {C : D → List Value → Prop} {w : World} {ops : Array Oper} {o : Oper} {a : Act} {K : Act → World → Prop} {Q : Exit → Act → World → Prop} {E : Prop} (hgd : o.guard = none) (s x : Operand) (t : TypeId)
    (ho : o.op = .call { callee := .builtin .append, args := #[s, x], argTypes := #[t, t] }) (base : Nat) (e : TypeId) (i : TypeInfo) (z : Value) (sz bytes : Nat) (ht : P.underlying t = some (.slice e)) (hi : P.info? e = some i) (hz : i.zero = some z)
    (hsize : i.size = sz) (hby : i.bytes = bytes) (hzs : z.cells.size = sz) (hsz : 0 < sz) (hk : ∀ d, (enc d).length = sz) (h1 : ∀ d, ∀ v ∈ enc d, v.oneCell' = true) (hC : ∀ d es, C d es → es = enc d) (v : Value) (n : Nat) (xs : List D) (hs : a.eval s = v) (hn : xs.length = n) (hown : RowE enc sz e base w xs v)
    (l : List D) (A : Option Addr) (m c lo hi' : Nat) (hx : a.eval x = .slice A m c) (hm : l.length = m) (hl : SlOf C sz lo hi' w l (.slice A m c)) (h63 : n + m ≤ maxLen) (hbytes : (n + m) * bytes ≤ 140737488355328) (hbase : base ≤ w.heap.size)
    (h : ∀ v' w', RowE enc sz e base w' (xs ++ l) v' → w.grownBy w' v.ownBlock → (v'.ownBlock = v.ownBlock ∨ v'.ownBlock = some w.heap.size) → K (a.put o.dst v') w') :
    if Region.wanted o (yielded ops a.tmps) = true then Oper.wp P o a w K Q else E := by
  obtain ⟨v', w', hr, h2, h3, h4⟩ := run_append_rows (P := P) (enc := enc) (C := C) w t o.type base e i z sz bytes ht hi hz hsize hby hzs hsz hk h1 hC v n xs hn hown l A m c lo hi' hm hl h63 hbytes hbase
  exact step_append_of hgd s x t ho v _ v' w' hs hx hr (h v' w' h2 h3 h4)
theorem SlOf.take {D : Type} {C : D → List Value → Prop} {sz lo hi : Nat} {w : World} {l : List D} {A : Option Addr} {n c : Nat} (h : SlOf C sz lo hi w l (.slice A n c)) {k : Nat} (hk : k ≤ l.length) : SlOf C sz lo hi w (l.take k) (.slice A k c) := by
  obtain ⟨A', c', hv, h1, h2, hA⟩ := h
  simp only [Value.slice.injEq] at hv
  obtain ⟨rfl, rfl, rfl⟩ := hv
  refine ⟨A, c, by rw [List.length_take]; congr 1; omega, by rw [List.length_take]; omega, h2, fun hp => ?_⟩
  rw [List.length_take] at hp
  obtain ⟨b, o, rfl, h3, h4, hc⟩ := hA (by omega)
  refine ⟨b, o, rfl, h3, h4, fun i d hd => ?_⟩
  rw [List.getElem?_take] at hd
  split at hd
  · exact hc i d hd
  · cases hd
theorem SlOf.drop {D : Type} {C : D → List Value → Prop} {sz lo hi : Nat} {w : World} {l : List D} {b o n c : Nat} (h : SlOf C sz lo hi w l (.slice (some ⟨b, o, none⟩) n c)) {k : Nat} (hk : k ≤ l.length) : SlOf C sz lo hi w (l.drop k) (.slice (some ⟨b, o + k * sz, none⟩) (n - k) (c - k)) := by
  obtain ⟨A', c', hv, h1, h2, hA⟩ := h
  simp only [Value.slice.injEq] at hv
  obtain ⟨rfl, rfl, rfl⟩ := hv
  refine ⟨_, c - k, by rw [List.length_drop], by rw [List.length_drop]; omega, by omega, fun hp => ?_⟩
  rw [List.length_drop] at hp
  obtain ⟨b', o', hbo, h3, h4, hc⟩ := hA (by omega)
  simp only [Option.some.injEq, Addr.mk.injEq, and_true] at hbo
  obtain ⟨rfl, rfl⟩ := hbo
  refine ⟨b, o + k * sz, rfl, h3, h4, fun i d hd => ?_⟩
  rw [List.getElem?_drop] at hd
  obtain ⟨cs, e1, e2, e3⟩ := hc (k + i) d hd
  refine ⟨cs, e1, fun j hj => ?_, e3⟩
  rw [← e2 j hj, Nat.add_mul]
  congr 2
  omega
end Go.Proofs.YtmhlnbihppojmaaGreat
namespace Go.Proofs.YtmhlnbihppojmaaGreat
open Go.RowKit
def cmpI (x y : Int) : Int := if x < y then -1 else if y < x then 1 else 0
def cmpS (a b : ByteArray) : Int := Lib.compareBytes a.data.toList b.data.toList
def lessS (a b : ByteArray) : Bool := Op.bytesLess a.toList b.toList
def orI : List Int → Int
  | [] => 0
  | x :: l => if x == 0 then orI l else x
theorem cmpB_cases : ∀ (a b : List UInt8), (Lib.compareBytes a b = 0 ∧ a = b) ∨ (Lib.compareBytes a b = -1 ∧ a ≠ b ∧ Op.bytesLess a b = true) ∨ (Lib.compareBytes a b = 1 ∧ a ≠ b ∧ Op.bytesLess a b = false)
  | [], [] => .inl ⟨rfl, rfl⟩
  | [], _ :: _ => .inr (.inl ⟨rfl, by simp, rfl⟩)
  | _ :: _, [] => .inr (.inr ⟨rfl, by simp, rfl⟩)
  | x :: a, y :: b => by
    have ih := cmpB_cases a b
    unfold Lib.compareBytes Op.bytesLess
    by_cases h1 : x < y
    · refine .inr (.inl ⟨by simp [h1], ?_, by simp [h1]⟩)
      intro h
      injection h with h2 _
      subst h2
      exact absurd h1 (UInt8.lt_irrefl x)
    · by_cases h2 : y < x
      · refine .inr (.inr ⟨by simp [h1, h2], ?_, ?_⟩)
        · intro h
          injection h with h3 _
          subst h3
          exact absurd h2 (UInt8.lt_irrefl x)
        · have : (x == y) = false := by
            rw [beq_eq_false_iff_ne]
            intro h3
            subst h3
            exact absurd h2 (UInt8.lt_irrefl x)
          simp [h1, this]
      · have h3 : x = y := UInt8.le_antisymm (UInt8.not_lt.1 h2) (UInt8.not_lt.1 h1)
        subst h3
        simpa [h1] using ih
theorem cmpS_cases (a b : ByteArray) : (cmpS a b = 0 ∧ a = b) ∨ (cmpS a b = -1 ∧ a ≠ b ∧ lessS a b = true) ∨ (cmpS a b = 1 ∧ a ≠ b ∧ lessS a b = false) := by
  have h := cmpB_cases a.data.toList b.data.toList
  unfold cmpS lessS
  rw [ByteArray.toList_eq, ByteArray.toList_eq]
  have e : a.data.toList = b.data.toList ↔ a = b := by
    constructor
    · intro h
      obtain ⟨x⟩ := a
      obtain ⟨y⟩ := b
      simp at h
      rw [h]
    · intro h
      rw [h]
  simp only [ne_eq, e] at h
  exact h
theorem beq_toList (a b : ByteArray) : (a.toList == b.toList) = decide (a = b) := by
  rw [Bool.eq_iff_iff, ByteArray.toList_eq, ByteArray.toList_eq]
  obtain ⟨x⟩ := a
  obtain ⟨y⟩ := b
  simp
theorem cmpI_cases (x y : Int) : (cmpI x y = 0 ∧ x = y) ∨ (cmpI x y = -1 ∧ x < y) ∨ (cmpI x y = 1 ∧ y < x) := by
  unfold cmpI
  split
  · exact .inr (.inl ⟨rfl, by assumption⟩)
  · split
    · exact .inr (.inr ⟨rfl, by assumption⟩)
    · exact .inl ⟨rfl, by omega⟩
theorem c_cmp_isNaN (x : Int) (w : World) : Calls Tryz.prog 181 #[.int .i64 x] w fun e w' => e = .returned (.bool false) ∧ w = w' := by
  go_enter Tryz.func181, Tryz.ntmps181
  go_wp2_with fail
  go_ret
  exact ⟨ret_bool (by simp), rfl⟩
theorem c_cmp_Compare (x y : Int) (w : World) : Calls Tryz.prog 105 #[.int .i64 x, .int .i64 y] w fun e w' => e = .returned (.int .i64 (cmpI x y)) ∧ w = w' := by
  by_cases h1 : x < y
  · go_enter Tryz.func105, Tryz.ntmps105
    go_wp2_with (first | (go_at_call 181; refine (c_cmp_isNaN _ _).mono ?_; rintro e w1 ⟨rfl, rfl⟩))
    go_ret
    exact ⟨ret_int (by unfold cmpI; rw [if_pos h1]), rfl⟩
  · by_cases h2 : y < x
    · go_enter Tryz.func105, Tryz.ntmps105
      go_wp2_with (first | (go_at_call 181; refine (c_cmp_isNaN _ _).mono ?_; rintro e w1 ⟨rfl, rfl⟩))
      go_ret
      exact ⟨ret_int (by unfold cmpI; rw [if_neg (by omega), if_pos (by omega)]), rfl⟩
    · go_enter Tryz.func105, Tryz.ntmps105
      go_wp2_with (first | (go_at_call 181; refine (c_cmp_isNaN _ _).mono ?_; rintro e w1 ⟨rfl, rfl⟩))
      go_ret
      exact ⟨ret_int (by unfold cmpI; rw [if_neg (by omega), if_neg (by omega)]), rfl⟩
theorem run_CompareString (a b : ByteArray) (w : World) : (callFunc 216 #[.string a, .string b]).run Tryz.prog w = .ok (.value (.int .i64 (cmpS a b))) w := by
  rw [run_callFunc_extern Tryz.func216 (by kernel_rfl) (by kernel_rfl) (by kernel_rfl) (e := Extern.BytealgCompare.compare) (by kernel_rfl), Lib.run_compareString]
  rfl
theorem c_CompareString (a b : ByteArray) (w : World) : Calls Tryz.prog 180 #[.string a, .string b] w fun e w' => e = .returned (.int .i64 (cmpS a b)) ∧ w = w' := by
  have h := run_CompareString a b
  go_enter Tryz.func180, Tryz.ntmps180
  go_wp2
  go_ret
  exact ⟨rfl, rfl⟩
theorem c_strings_Compare (a b : ByteArray) (w : World) : Calls Tryz.prog 104 #[.string a, .string b] w fun e w' => e = .returned (.int .i64 (cmpS a b)) ∧ w = w' := by
  go_enter Tryz.func104, Tryz.ntmps104
  go_wp2_with (first | (go_at_call 180; refine (c_CompareString _ _ _).mono ?_; rintro e w1 ⟨rfl, rfl⟩))
  go_ret
  exact ⟨rfl, rfl⟩
def C_Int (n : Int) (cs : List Value) : Prop := cs = [.int .i64 n]
theorem part_ints (l : List Int) : Part C_Int 1 l l.length (l.map (Value.int .i64)).toArray := by
  refine ⟨by simp, fun i d _ hd => ⟨[.int .i64 d], rfl, fun j hj => ?_, rfl⟩⟩
  obtain rfl : j = 0 := by omega
  simp [hd]
theorem orI_drop (l : List Int) (k : Nat) (x : Int) (h : l[k]? = some x) : orI (l.drop k) = if x == 0 then orI (l.drop (k + 1)) else x := by
  have hl : k < l.length := (List.getElem?_eq_some_iff.1 h).1
  rw [List.drop_eq_getElem_cons hl]
  have : l[k] = x := by rw [List.getElem?_eq_getElem hl] at h; exact Option.some.inj h
  rw [this]
  rfl
theorem c_cmp_Or (l : List Int) (v : Value) (w : World) (lo : Nat) (hs : SlOf C_Int 1 lo w.heap.size w l v) : Calls Tryz.prog 103 #[v] w fun e w' => e = .returned (.int .i64 (orI l)) ∧ w = w' := by
  obtain ⟨A, c, rfl, hlc, hc, hA⟩ := hs
  go_enter Tryz.func103, Tryz.ntmps103
  go_wp2_with fail
  go_loop [8] (fun i => ∃ k : Nat, k ≤ l.length ∧ i = .int .i64 k ∧ orI l = orI (l.drop k)) (fun i => l.length - (intOf i).toNat)
  case atStart => exact ⟨0, Nat.zero_le _, rfl, rfl⟩
  case round =>
    obtain ⟨k, hk, rfl, heq⟩ := hrel
    have Heq := Lib.hid heq
    clear heq
    by_cases hlt : k < l.length
    · obtain ⟨b, o, rfl, -, -, hcell⟩ := hA (by omega)
      obtain ⟨d, hd⟩ := exists_at hlt
      obtain ⟨es, -, hcs, rfl⟩ := hcell k d hd
      have hc0 := hcs 0 (by omega)
      simp at hc0
      have Ho := Lib.hid (orI_drop l k d hd)
      clear hcs hcell hA
      rcases hz : d == 0 with _ | _
      · have hz2 : (d != 0) = true := by simp [bne, hz]
        have Hf := Lib.hid (show orI l = d by rw [Heq.out, Ho.out, hz]; rfl)
        go_wp2_with fail
        go_ret
        exact ⟨ret_int Hf.out.symm, rfl⟩
      · have hz2 : (d != 0) = false := by simp [bne, hz]
        have Hf := Lib.hid (show orI l = orI (l.drop (k + 1)) by rw [Heq.out, Ho.out, hz]; rfl)
        go_wp2_with fail
        go_round
        case rel => exact ⟨k + 1, by omega, by go_num, Hf.out⟩
        case measure => simp [intOf]; omega
    · obtain rfl : k = l.length := by omega
      have Hf := Lib.hid (show orI l = 0 by rw [Heq.out, List.drop_length]; rfl)
      clear hA
      go_wp2_with fail
      go_ret
      exact ⟨ret_int Hf.out.symm, rfl⟩
theorem heap_new {w : World} {o : Obj} {b : Nat} (h : b = w.heap.size) : (w.alloc o).heap[b]? = some o := by subst h; exact heap_alloc_new w o
theorem ints_at (l : List Int) (w : World) (b : Nat) (T : TypeId) (h : l.length ≤ 9223372036854775807) (hg : w.heap[b]? = some (.cells (l.map (Value.int .i64)).toArray T (0, 0))) : SlOf C_Int 1 0 w.heap.size w l (.slice (some ⟨b, 0, none⟩) l.length l.length) :=
  SlOf.of_part (part_ints l) hg (Nat.zero_le _) (row_lt hg) (Nat.le_refl _) h
theorem c_cmp_Or3 (x y z : Int) (w : World) (b : Nat) (T : TypeId) (hg : w.heap[b]? = some (.cells #[.int .i64 x, .int .i64 y, .int .i64 z] T (0, 0))) : Calls Tryz.prog 103 #[.slice (some ⟨b, 0, none⟩) 3 3] w fun e w' => e = .returned (.int .i64 (orI [x, y, z])) ∧ w = w' :=
  c_cmp_Or [x, y, z] _ _ 0 (ints_at [x, y, z] w b T (by simp) hg)
theorem c_cmp_Or4 (x y z u : Int) (w : World) (b : Nat) (T : TypeId) (hg : w.heap[b]? = some (.cells #[.int .i64 x, .int .i64 y, .int .i64 z, .int .i64 u] T (0, 0))) : Calls Tryz.prog 103 #[.slice (some ⟨b, 0, none⟩) 4 4] w fun e w' => e = .returned (.int .i64 (orI [x, y, z, u])) ∧ w = w' :=
  c_cmp_Or [x, y, z, u] _ _ 0 (ints_at [x, y, z, u] w b T (by simp) hg)
end Go.Proofs.YtmhlnbihppojmaaGreat
