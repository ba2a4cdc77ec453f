/- Written by wip/tools/pack.py: the texts that FnExactHostTree needs, without what it does not need. No conditions. -/
import Derived.Test.YteecgklmdfockaaGreatDoorKFnExactHostTree1
import Derived.Orders
import Derived.Test.YteecgklmdfockaaGreatDoorKFnExactHostTree2
import Derived.Lib.LazyBuf
import Derived.Deep.RegionLaw
namespace Go.Proofs.YteecgklmdfockaaGreatDoor
open Go.RowKit
/-- The slot that operation j writes. -/
def dstAt (ops : Array Oper) (j : Nat) : Option Tmp := (ops[j]?).bind (·.dst)
def isSelect : Op → Bool
  | .select .. => true
  | _ => false
/-- The first m operations write slots of their own and look only at slots of their forerunners; each later one comes behind all. -/
def detOk (ops : Array Oper) (m : Nat) : Bool :=
  decide (m ≤ ops.size) && (List.range ops.size).all fun i => match ops[i]? with
    | none => false
    | some o => o.after.all (fun e => !Region.binds .any e || decide (e.on < i)) &&
      (if i < m then
        !isSelect o.op &&
        (match o.dst with | none => false | some d => (List.range m).all fun j => j == i || dstAt ops j != some d) &&
        (o.looksAt ops).all (fun t => (List.range m).all fun j => dstAt ops j != some t || o.after.any (fun e => Region.binds .any e && e.on == j))
      else (List.range i).all fun j => o.after.any (fun e => Region.binds .any e && e.on == j))
def QDet (A : Act) (w : World) : Exit → Act → World → Prop := fun e a' w' => e = .normal ∧ a' = A ∧ Below w.heap.size w w'
/-- The operations one by one in the order of the text: each yields a value c whatever new memory there is; at the end T. -/
def ChainDet (P : Program) (ops : Array Oper) (w : World) (T : Act → Prop) : List Oper → Act → Prop
  | [], A => T A
  | o :: rest, A => ∃ c, (∀ w', Below w.heap.size w w' → wpList P ops (QDet (A.put o.dst c) w') [o] A w') ∧ ChainDet P ops w T rest (A.put o.dst c)
def putAll (A : Act) : List Oper → List Value → Act
  | o :: l, c :: cs => putAll (A.put o.dst c) l cs
  | _, _ => A
theorem put_sz (A : Act) (d : Option Tmp) (c : Value) : (A.put d c).tmps.size = A.tmps.size ∧ (A.put d c).defers = A.defers := by
  cases d <;> simp [Act.put]
theorem putAll_sz : ∀ (l : List Oper) (cs : List Value) (A : Act), (putAll A l cs).tmps.size = A.tmps.size ∧ (putAll A l cs).defers = A.defers
  | [], _, A => ⟨rfl, rfl⟩
  | _ :: _, [], A => ⟨rfl, rfl⟩
  | o :: l, c :: cs, A => by
    have h := putAll_sz l cs (A.put o.dst c)
    have h2 := put_sz A o.dst c
    exact ⟨h.1.trans h2.1, h.2.trans h2.2⟩
theorem put_at {a : Act} {d : Tmp} {v : Value} {t : Tmp} : (a.put (some d) v).tmps[t]? = if d = t then (if d < a.tmps.size then some v else none) else a.tmps[t]? := by
  simp only [Act.put]
  rw [Array.getElem?_setIfInBounds]
theorem put_far {a : Act} {d : Option Tmp} {v : Value} {t : Tmp} (h : d ≠ some t) : (a.put d v).tmps[t]? = a.tmps[t]? := by
  cases d with
  | none => rfl
  | some d =>
    rw [put_at, if_neg (fun e => h (by rw [e]))]
theorem putAll_far : ∀ (l : List Oper) (cs : List Value) (A : Act) (t : Tmp), (∀ o ∈ l, o.dst ≠ some t) → (putAll A l cs).tmps[t]? = A.tmps[t]?
  | [], _, A, t, _ => rfl
  | _ :: _, [], A, t, _ => rfl
  | o :: l, c :: cs, A, t, h => by
    rw [putAll, putAll_far l cs _ t (fun o' ho' => h o' (List.mem_cons_of_mem _ ho')), put_far (h o (List.mem_cons_self ..))]
theorem putAll_at : ∀ (l : List Oper) (cs : List Value) (A : Act) (j : Nat) (o : Oper) (d : Tmp), cs.length = l.length → l[j]? = some o → o.dst = some d → (∀ k o', k ≠ j → l[k]? = some o' → o'.dst ≠ some d) →
    (putAll A l cs).tmps[d]? = if d < A.tmps.size then cs[j]? else none
  | [], _, A, j, o, d, _, h, _, _ => by simp at h
  | x :: l, [], A, j, o, d, h, _, _, _ => by simp at h
  | x :: l, c :: cs, A, 0, o, d, hl, h, hd, hu => by
    simp at h
    subst h
    rw [putAll, putAll_far l cs _ d (fun o' ho' => by
      obtain ⟨k, hk⟩ := List.mem_iff_getElem?.1 ho'
      exact hu (k + 1) o' (by omega) (by simpa using hk)), hd, put_at, if_pos rfl]
    rfl
  | x :: l, c :: cs, A, j + 1, o, d, hl, h, hd, hu => by
    rw [putAll, putAll_at l cs _ j o d (by simpa using hl) (by simpa using h) hd (fun k o' hk ho' => hu (k + 1) o' (by omega) (by simpa using ho')), (put_sz A x.dst c).1]
    rfl
theorem act_ext {a b : Act} (h1 : ∀ t : Nat, a.tmps[t]? = b.tmps[t]?) (h2 : a.defers = b.defers) : a = b := by
  cases a; cases b
  simp at h1 h2
  subst h2
  congr
  exact Array.ext_getElem?  h1
section
variable {P : Program} {ops : Array Oper} {Q : Exit → Act → World → Prop}
theorem no_letsOut {A : Act} {w : World} : ¬ LetsOut (QDet A w) := fun ⟨_, _, h⟩ => by cases h.1
theorem upon_det {o : Oper} {A B a' : Act} {w' : World} {K : Act → World → Prop} {r : Result Next} (hd : B.defers = A.defers)
    (h : o.upon P A (wpList P ops (QDet B w') []) (QDet B w') r) (hK : ∀ v w'', A.put o.dst v = B → Below w'.heap.size w' w'' → K (a'.put o.dst v) w'') : o.upon P a' K Q r := by
  cases r with
  | ok n w1 =>
    cases n with
    | value v => exact hK v w1 h.2.1 h.2.2
    | skip => exact hK undef w1 h.2.1 h.2.2
    | defer d =>
      have h2 := congrArg Act.defers h.2.1
      rw [hd, (put_sz _ _ _).2] at h2
      simp at h2
    | enter f args =>
      refine Calls.mono h ?_
      intro e w2 he
      cases e with
      | returned v => exact hK v w2 he.2.1 he.2.2
      | panicked c => cases he.1
      | outgrown => exact absurd he no_letsOut
    | row row args =>
      exact Rows.mono h (fun v w2 he => hK v w2 he.2.1 he.2.2)
    | _ => exact h.elim
  | halt x w1 =>
    cases x with
    | panic v => cases h.1
    | _ => exact h.elim
theorem detOk_at {m i : Nat} {o : Oper} (h : detOk ops m = true) (ho : ops[i]? = some o) :
    (∀ e ∈ o.after, Region.binds .any e = true → e.on < i) ∧
    (i < m → (∀ cs b, o.op ≠ .select cs b) ∧ (∃ d, o.dst = some d ∧ ∀ j, j < m → j ≠ i → dstAt ops j ≠ some d) ∧ (∀ t ∈ o.looksAt ops, ∀ j, j < m → dstAt ops j = some t → ∃ e ∈ o.after, Region.binds .any e = true ∧ e.on = j)) ∧
    (m ≤ i → ∀ j, j < i → ∃ e ∈ o.after, Region.binds .any e = true ∧ e.on = j) := by
  have hi : i < ops.size := (Array.getElem?_eq_some_iff.1 ho).1
  unfold detOk at h
  rw [Bool.and_eq_true, List.all_eq_true] at h
  have h := h.2 i (List.mem_range.2 hi)
  simp only [ho, Bool.and_eq_true] at h
  obtain ⟨h1, h2⟩ := h
  refine ⟨fun e he hb => ?_, fun hlt => ?_, fun hge j hj => ?_⟩
  · have := Array.all_eq_true_iff_forall_mem.1 h1 e he
    simpa [hb] using this
  · rw [if_pos hlt] at h2
    simp only [Bool.and_eq_true] at h2
    obtain ⟨⟨hs, hd⟩, hl⟩ := h2
    refine ⟨(fun cs b he => by rw [he] at hs; cases hs), ?_, fun t ht j hj hdj => ?_⟩
    · cases hdst : o.dst with
      | none => rw [hdst] at hd; cases hd
      | some d =>
        rw [hdst] at hd
        refine ⟨d, rfl, fun j hj hne he => ?_⟩
        have := List.all_eq_true.1 hd j (List.mem_range.2 hj)
        simp [hne, he] at this
    · have := List.all_eq_true.1 (List.all_eq_true.1 hl t ht) j (List.mem_range.2 hj)
      simp only [hdj, bne_self_eq_false, Bool.false_or] at this
      obtain ⟨e, he, hh⟩ := Array.any_eq_true'.1 this
      simp only [Bool.and_eq_true, beq_iff_eq] at hh
      exact ⟨e, he, hh.1, hh.2⟩
  · rw [if_neg (by omega)] at h2
    have := List.all_eq_true.1 h2 j (List.mem_range.2 hj)
    obtain ⟨e, he, hh⟩ := Array.any_eq_true'.1 this
    simp only [Bool.and_eq_true, beq_iff_eq] at hh
    exact ⟨e, he, hh.1, hh.2⟩
theorem getD_set {listed : Array Bool} {i j : Nat} : (listed.setIfInBounds i true).getD j true = if i = j then true else listed.getD j true := by
  by_cases h : i = j
  · subst h
    rw [if_pos rfl]
    by_cases hs : i < listed.size
    · simp [hs]
    · simp [hs]
  · rw [if_neg h, getD_set_ne _ h]
theorem getD_in {listed : Array Bool} {j : Nat} (h : j < listed.size) : listed.getD j false = listed.getD j true := by simp [h]
theorem det_tail {m : Nat} (hchk : detOk ops m = true) : ∀ (fuel k : Nat) (listed : Array Bool) (a : Act) (w : World), m ≤ k → k ≤ ops.size → listed.size = ops.size → (∀ j, j < ops.size → listed.getD j true = decide (j < k)) → ops.size - k ≤ fuel →
    wpList P ops Q (ops.toList.drop k) a w → wpAny P .any ops Q fuel listed a w := by
  intro fuel
  induction fuel with
  | zero =>
    intro k listed a w _ hk hs hl hf h
    have hkn : k = ops.size := by omega
    subst hkn
    rw [List.drop_of_length_le (by simp)] at h
    refine ⟨?_, h⟩
    rw [List.eq_nil_iff_forall_not_mem]
    intro j hj
    obtain ⟨h0, o, ho, _⟩ := mem_ready.1 hj
    have hjn : j < ops.size := (Array.getElem?_eq_some_iff.1 ho).1
    rw [hl j hjn] at h0
    simp at h0
    omega
  | succ fuel ih =>
    intro k listed a w hm hk hs hl hf h
    by_cases hkn : k = ops.size
    · subst hkn
      rw [List.drop_of_length_le (by simp)] at h
      refine ⟨fun _ => h, fun j hj => ?_⟩
      obtain ⟨h0, o, ho, _⟩ := mem_ready.1 hj
      have hjn : j < ops.size := (Array.getElem?_eq_some_iff.1 ho).1
      rw [hl j hjn] at h0
      simp at h0
      omega
    · have hlt : k < ops.size := by omega
      have hok : ops[k]? = some ops[k] := Array.getElem?_eq_getElem hlt
      have hready : k ∈ Region.ready .any ops listed := by
        refine mem_ready.2 ⟨by rw [hl k hlt]; simp, _, hok, fun e he hb => ?_⟩
        have hon := (detOk_at hchk hok).1 e he hb
        rw [getD_in (by omega), hl _ (by omega)]
        simpa using hon
      refine ⟨(fun hn => by rw [hn] at hready; cases hready), fun i hi => ?_⟩
      obtain ⟨h0, o, ho, hall⟩ := mem_ready.1 hi
      have hin : i < ops.size := (Array.getElem?_eq_some_iff.1 ho).1
      have hik : i = k := by
        rw [hl i hin] at h0
        simp at h0
        by_cases he : i = k
        · exact he
        · exfalso
          obtain ⟨e, he1, he2, he3⟩ := (detOk_at hchk ho).2.2 (by omega) k (by omega)
          have := hall e he1 he2
          rw [he3, getD_in (by omega), hl k hlt] at this
          simp at this
      subst hik
      have hdrop : ops.toList.drop i = ops[i] :: ops.toList.drop (i + 1) := by
        rw [List.drop_eq_getElem_cons (by simpa using hlt)]
        simp
      rw [hdrop] at h
      have hoi : o = ops[i] := by rw [hok] at ho; exact (Option.some.inj ho).symm
      have next : ∀ a' w', wpList P ops Q (ops.toList.drop (i + 1)) a' w' → wpAny P .any ops Q fuel (listed.setIfInBounds i true) a' w' := fun a' w' h' =>
        ih (i + 1) _ a' w' (by omega) (by omega) (by simpa using hs) (fun j hj => by
          rw [getD_set, hl j hj]
          by_cases hij : i = j
          · subst hij; simp
          · rw [if_neg hij, Bool.eq_iff_iff]; simp; omega) (by omega) h'
      unfold wpOp
      rw [hok]
      simp only
      unfold wpList at h
      split
      · rename_i hw
        rw [if_pos hw] at h
        exact h.imp (Oper.wp_mono next) id
      · rename_i hw
        rw [if_neg hw] at h
        exact next _ _ h
structure DetInv (ops : Array Oper) (m : Nat) (a A : Act) (w0 : World) (listed : Array Bool) (a' : Act) (w' : World) : Prop where
  tail : ∀ j, m ≤ j → j < ops.size → listed.getD j true = false
  below : Below w0.heap.size w0 w'
  done : ∀ j d, j < m → listed.getD j true = true → dstAt ops j = some d → a'.tmps[d]? = A.tmps[d]?
  free : ∀ t : Nat, (∀ j, j < m → listed.getD j true = true → dstAt ops j ≠ some t) → a'.tmps[t]? = a.tmps[t]?
  sz : a'.tmps.size = a.tmps.size
  ls : listed.size = ops.size
  df : a'.defers = a.defers
def cntB (m : Nat) (listed : Array Bool) : Nat := (List.range m).countP fun j => !listed.getD j true
theorem countP_lt {p q : Nat → Bool} : ∀ {l : List Nat}, (∀ x, p x = true → q x = true) → ∀ {i : Nat}, i ∈ l → p i = false → q i = true → l.countP p < l.countP q
  | [], _, i, hi, _, _ => by cases hi
  | x :: l, hpq, i, hi, h1, h2 => by
    have hle : l.countP p ≤ l.countP q := List.countP_mono_left (fun x _ => hpq x)
    rw [List.countP_cons, List.countP_cons]
    rcases List.mem_cons.1 hi with rfl | hi'
    · simp [h1, h2]; omega
    · have := countP_lt hpq hi' h1 h2
      have hx := hpq x
      cases hp : p x <;> cases hq : q x <;> simp_all <;> omega
theorem det_end {m : Nat} {a A : Act} {w0 : World} (hchk : detOk ops m = true) (hm : m ≤ ops.size) (hsz : A.tmps.size = a.tmps.size) (hdf : A.defers = a.defers)
    (hfar : ∀ t : Nat, (∀ j, j < m → dstAt ops j ≠ some t) → A.tmps[t]? = a.tmps[t]?)
    (htail : ∀ w', Below w0.heap.size w0 w' → wpList P ops Q (ops.toList.drop m) A w')
    (fuel : Nat) (listed : Array Bool) (a' : Act) (w' : World) (hI : DetInv ops m a A w0 listed a' w') (hall : ∀ j, j < m → listed.getD j true = true) (hf : ops.size - m ≤ fuel) : wpAny P .any ops Q fuel listed a' w' := by
  have hA : a' = A := by
    refine act_ext (fun t => ?_) (by rw [hI.df, hdf])
    by_cases h : ∃ j, j < m ∧ dstAt ops j = some t
    · obtain ⟨j, hj, hd⟩ := h
      exact hI.done j t hj (hall j hj) hd
    · have hn : ∀ j, j < m → dstAt ops j ≠ some t := fun j hj hd => h ⟨j, hj, hd⟩
      rw [hfar t hn, hI.free t (fun j hj _ => hn j hj)]
  subst hA
  refine det_tail hchk fuel m listed a' w' (Nat.le_refl _) hm hI.ls (fun j hj => ?_) hf (htail w' hI.below)
  by_cases hjm : j < m
  · rw [hall j hjm]; simp [hjm]
  · rw [hI.tail j (by omega) hj]; simp [hjm]
theorem det_any {m : Nat} {a A : Act} {w0 : World} (hchk : detOk ops m = true) (hm : m ≤ ops.size) (hsz : A.tmps.size = a.tmps.size) (hdf : A.defers = a.defers)
    (hfar : ∀ t : Nat, (∀ j, j < m → dstAt ops j ≠ some t) → A.tmps[t]? = a.tmps[t]?)
    (hob : ∀ (i : Nat) (o : Oper), i < m → ops[i]? = some o → ∃ (B : Act) (c : Value), B.tmps.size = a.tmps.size ∧ B.defers = a.defers ∧ (∀ t ∈ o.looksAt ops, B.tmps[t]? = A.tmps[t]?) ∧ (∀ d : Tmp, o.dst = some d → (B.put o.dst c).tmps[d]? = A.tmps[d]?) ∧
      ∀ w', Below w0.heap.size w0 w' → wpList P ops (QDet (B.put o.dst c) w') [o] B w')
    (htail : ∀ w', Below w0.heap.size w0 w' → wpList P ops Q (ops.toList.drop m) A w') :
    ∀ (fuel : Nat) (listed : Array Bool) (a' : Act) (w' : World), DetInv ops m a A w0 listed a' w' → cntB m listed + (ops.size - m) ≤ fuel → wpAny P .any ops Q fuel listed a' w' := by
  intro fuel
  induction fuel with
  | zero =>
    intro listed a' w' hI hf
    exact det_end hchk hm hsz hdf hfar htail 0 listed a' w' hI (fun j hj => by
      by_cases hl : listed.getD j true = true
      · exact hl
      · exfalso
        have : 0 < cntB m listed := List.countP_pos_iff.2 ⟨j, List.mem_range.2 hj, by simpa using hl⟩
        omega) (by omega)
  | succ fuel ih =>
    intro listed a' w' hI hf
    by_cases hall : ∀ j, j < m → listed.getD j true = true
    · exact det_end hchk hm hsz hdf hfar htail _ listed a' w' hI hall (by omega)
    · obtain ⟨j0, hj0, hj1⟩ : ∃ j, j < m ∧ listed.getD j true = false := by
        rcases Classical.not_forall.1 hall with ⟨j, hj⟩
        rcases Classical.not_imp.1 hj with ⟨hj, hl⟩
        exact ⟨j, hj, by simpa using hl⟩
      have hfind : ∀ (b j : Nat), j ≤ b → j < m → listed.getD j true = false → ∃ i, i ∈ Region.ready .any ops listed := by
        intro b
        induction b using Nat.strongRecOn with
        | _ b ihb =>
          intro j hjb hjm hjf
          have hjn : j < ops.size := by omega
          have hok : ops[j]? = some ops[j] := Array.getElem?_eq_getElem hjn
          by_cases hr : ∀ e ∈ ops[j].after, Region.binds .any e = true → listed.getD e.on false = true
          · exact ⟨j, mem_ready.2 ⟨hjf, _, hok, hr⟩⟩
          · rcases Classical.not_forall.1 hr with ⟨e, he⟩
            rcases Classical.not_imp.1 he with ⟨he, he2⟩
            rcases Classical.not_imp.1 he2 with ⟨hb, he3⟩
            have hon := (detOk_at hchk hok).1 e he hb
            have hls := hI.ls
            rw [getD_in (by omega)] at he3
            exact ihb e.on (by omega) e.on (Nat.le_refl _) (by omega) (by simpa using he3)
      obtain ⟨i0, hi0⟩ := hfind j0 j0 (Nat.le_refl _) hj0 hj1
      refine ⟨(fun hn => by rw [hn] at hi0; cases hi0), fun i hi => ?_⟩
      obtain ⟨h0, o, ho, hpre⟩ := mem_ready.1 hi
      have hin : i < ops.size := (Array.getElem?_eq_some_iff.1 ho).1
      have hls := hI.ls
      obtain ⟨_, hbody, htl⟩ := detOk_at hchk ho
      have him : i < m := by
        rcases Nat.lt_or_ge i m with h | h
        · exact h
        · exfalso
          obtain ⟨e, he1, he2, he3⟩ := htl h j0 (by omega)
          have := hpre e he1 he2
          rw [he3, getD_in (by omega), hj1] at this
          cases this
      obtain ⟨hsel, ⟨d, hd, hdu⟩, hlook⟩ := hbody him
      have hdi : dstAt ops i = some d := by unfold dstAt; rw [ho]; exact hd
      obtain ⟨B, c, hBs, hBd, hBl, hBc, hBo⟩ := hob i o him ho
      -- what the operation looks at reads as in B
      have hview : ∀ t ∈ o.looksAt ops, a'.tmps[t]? = B.tmps[t]? := by
        intro t ht
        rw [hBl t ht]
        by_cases h : ∃ j, j < m ∧ dstAt ops j = some t
        · obtain ⟨j, hj, hdj⟩ := h
          obtain ⟨e, he1, he2, he3⟩ := hlook t ht j hj hdj
          have hl := hpre e he1 he2
          rw [he3, getD_in (by omega)] at hl
          exact hI.done j t hj hl hdj
        · have hn : ∀ j, j < m → dstAt ops j ≠ some t := fun j hj hd => h ⟨j, hj, hd⟩
          rw [hfar t hn, hI.free t (fun j hj _ => hn j hj)]
      have heval : ∀ x ∈ o.op.operands, B.eval x = a'.eval x := by
        intro x hx
        cases x with
        | tmp t =>
          have ht : t ∈ o.looksAt ops := by
            unfold Oper.looksAt
            exact List.mem_append_left _ (List.mem_filterMap.2 ⟨.tmp t, by simpa using hx, rfl⟩)
          simp only [Act.eval]
          rw [Array.getD_eq_getD_getElem?, Array.getD_eq_getD_getElem?, hview t ht]
        | _ => rfl
      have hwant : Region.wanted o (yielded ops a'.tmps) = Region.wanted o (yielded ops B.tmps) := by
        unfold Region.wanted
        cases hg : o.guard with
        | none => rfl
        | some p =>
          obtain ⟨g, want⟩ := p
          simp only
          have : yielded ops a'.tmps g = yielded ops B.tmps g := by
            unfold yielded
            cases hgd : (ops[g]?).bind (·.dst) with
            | none => rfl
            | some t =>
              have ht : t ∈ o.looksAt ops := by
                unfold Oper.looksAt
                refine List.mem_append_right _ ?_
                simp only [hg]
                rw [hgd]
                simp
              simp only [Option.bind_some]
              rw [hview t ht]
          rw [this]
      have hexec : execOp a'.eval o = execOp B.eval o := (execOp_congr o hsel heval).symm
      have hOi := hBo w' hI.below
      -- the next state
      have next : ∀ v w'', B.put o.dst v = B.put o.dst c → Below w'.heap.size w' w'' → wpAny P .any ops Q fuel (listed.setIfInBounds i true) (a'.put o.dst v) w'' := by
        intro v w'' hv hb
        have hBc' := hBc d hd
        rw [hd] at hv hBc' ⊢
        refine ih _ _ _ ⟨fun j hj hjn => ?_, ext_trans hI.below hb, fun j d' hj hl hdj => ?_, fun t ht => ?_, ?_, by simpa using hls, hI.df⟩ ?_
        · rw [getD_set, if_neg (by omega)]
          exact hI.tail j hj hjn
        · by_cases hji : j = i
          · subst hji
            rw [hdi] at hdj
            obtain rfl := Option.some.inj hdj
            rw [← hBc', ← hv, put_at, if_pos rfl, put_at, if_pos rfl, hI.sz, hBs]
          · rw [getD_set, if_neg (fun h => hji h.symm)] at hl
            rw [put_at, if_neg (fun h => hdu j hj hji (by rw [hdj, h]))]
            exact hI.done j d' hj hl hdj
        · have hne : d ≠ t := fun h => ht i him (by rw [getD_set, if_pos rfl]) (by rw [hdi, h])
          rw [put_at, if_neg hne]
          refine hI.free t (fun j hj hl => ht j hj ?_)
          rw [getD_set]
          split
          · rfl
          · exact hl
        · simp only [Act.put]
          rw [Array.size_setIfInBounds]
          exact hI.sz
        · have : cntB m (listed.setIfInBounds i true) < cntB m listed := by
            refine countP_lt (fun x hx => ?_) (List.mem_range.2 him) ?_ ?_
            · rw [getD_set] at hx
              split at hx
              · cases hx
              · exact hx
            · rw [getD_set, if_pos rfl]; rfl
            · simp [h0]
          omega
      unfold wpOp
      rw [ho]
      simp only
      unfold wpList at hOi
      rw [hwant]
      split
      · rename_i hw
        rw [if_pos hw] at hOi
        refine .inl ?_
        rcases hOi with hOi | ⟨_, hl⟩
        · unfold Oper.wp at hOi ⊢
          rw [hexec]
          exact upon_det (put_sz _ _ _).2 hOi next
        · exact absurd hl no_letsOut
      · rename_i hw
        rw [if_neg hw] at hOi
        exact next undef w' hOi.2.1 (Below.refl _ _)
theorem chain_split {w : World} {T : Act → Prop} : ∀ (l : List Oper) (A : Act), ChainDet P ops w T l A → ∃ cs : List Value, cs.length = l.length ∧ T (putAll A l cs) ∧
    ∀ (i : Nat) (o : Oper), l[i]? = some o → ∃ c, cs[i]? = some c ∧ ∀ w', Below w.heap.size w w' → wpList P ops (QDet ((putAll A (l.take i) (cs.take i)).put o.dst c) w') [o] (putAll A (l.take i) (cs.take i)) w'
  | [], A, h => ⟨[], rfl, h, fun i o hi => by simp at hi⟩
  | x :: l, A, h => by
    obtain ⟨c, h1, h2⟩ := h
    obtain ⟨cs, hl, hT, hi⟩ := chain_split l _ h2
    refine ⟨c :: cs, by simp [hl], hT, fun i o ho => ?_⟩
    cases i with
    | zero =>
      simp at ho
      subst ho
      exact ⟨c, rfl, h1⟩
    | succ i => exact hi i o (by simpa using ho)
/-- A region that draws its order: its first m operations are walked one by one in the order of the text, each in a world that has grown; the others follow. -/
theorem wp_region_det {id : Nat} {a : Act} {w : World} (m : Nat) (hmix : P.follows .mixedOrders = true) (hchk : detOk ops m = true) (hm : m ≤ ops.size)
    (h : ChainDet P ops w (fun A => ∀ w', Below w.heap.size w w' → wpList P ops Q (ops.toList.drop m) A w') (ops.toList.take m) a) : (Code.region id ops true).wp P Q a w := by
  refine wp_region_any hmix ?_
  obtain ⟨cs, hl, hT, hi⟩ := chain_split _ _ h
  have hlen : (ops.toList.take m).length = m := by simp [hm]
  have hget : ∀ (j : Nat) (o : Oper), (ops.toList.take m)[j]? = some o ↔ j < m ∧ ops[j]? = some o := by
    intro j o
    rw [List.getElem?_take]
    by_cases hj : j < m
    · rw [if_pos hj]; simp [hj]
    · rw [if_neg hj]; simp [hj]
  have huniq : ∀ (j : Nat) (o : Oper) (d : Tmp), (ops.toList.take m)[j]? = some o → o.dst = some d → ∀ k o', k ≠ j → (ops.toList.take m)[k]? = some o' → o'.dst ≠ some d := by
    intro j o d hj hd k o' hk ho' hd'
    obtain ⟨hjm, hj'⟩ := (hget j o).1 hj
    obtain ⟨hkm, hk'⟩ := (hget k o').1 ho'
    obtain ⟨_, ⟨d2, hd2, hu⟩, _⟩ := (detOk_at hchk hj').2.1 hjm
    rw [hd] at hd2
    obtain rfl := Option.some.inj hd2
    exact hu k hkm hk (by unfold dstAt; rw [hk']; exact hd')
  have hfar : ∀ t : Nat, (∀ j, j < m → dstAt ops j ≠ some t) → (putAll a (ops.toList.take m) cs).tmps[t]? = a.tmps[t]? := by
    intro t ht
    refine putAll_far _ _ _ _ (fun o ho hd => ?_)
    obtain ⟨j, hj⟩ := List.mem_iff_getElem?.1 ho
    obtain ⟨hjm, hj'⟩ := (hget j o).1 hj
    exact ht j hjm (by unfold dstAt; rw [hj']; exact hd)
  have hsz := putAll_sz (ops.toList.take m) cs a
  refine det_any (m := m) (a := a) (A := putAll a (ops.toList.take m) cs) (w0 := w) hchk hm hsz.1 hsz.2 hfar (fun i o him ho => ?_) hT ops.size _ a _ ⟨fun j _ hj => by simp [hj], (Below.refl _ w).drew, fun j d hj hl => ?_, fun _ _ => rfl, rfl, by simp, rfl⟩ ?_
  · obtain ⟨c, hc, hw⟩ := hi i o ((hget i o).2 ⟨him, ho⟩)
    have hsi := putAll_sz ((ops.toList.take m).take i) (cs.take i) a
    obtain ⟨_, hbody, _⟩ := detOk_at hchk ho
    obtain ⟨_, ⟨d, hd, _⟩, hlook⟩ := hbody him
    refine ⟨_, c, hsi.1, hsi.2, fun t ht => ?_, fun d' hd' => ?_, hw⟩
    · by_cases h : ∃ j, j < m ∧ dstAt ops j = some t
      · obtain ⟨j, hj, hdj⟩ := h
        obtain ⟨e, he1, he2, he3⟩ := hlook t ht j hj hdj
        have hji := (detOk_at hchk ho).1 e he1 he2
        rw [he3] at hji
        have hjn : j < ops.size := by omega
        have hoj : ops[j]? = some ops[j] := Array.getElem?_eq_getElem hjn
        have hdj' : ops[j].dst = some t := by unfold dstAt at hdj; rw [hoj] at hdj; exact hdj
        have hlj := (hget j _).2 ⟨hj, hoj⟩
        rw [putAll_at _ _ _ j _ t hl hlj hdj' (huniq j _ t hlj hdj')]
        rw [putAll_at _ _ _ j ops[j] t (by simp [hl]) (by rw [List.getElem?_take, if_pos hji]; exact hlj) hdj' (fun k o' hk ho' => huniq j _ t hlj hdj' k o' hk (by
          rw [List.getElem?_take] at ho'
          split at ho'
          · exact ho'
          · cases ho'))]
        rw [List.getElem?_take, if_pos hji]
      · have hn : ∀ j, j < m → dstAt ops j ≠ some t := fun j hj hd => h ⟨j, hj, hd⟩
        rw [hfar t hn]
        refine putAll_far _ _ _ _ (fun o' ho' hd' => ?_)
        obtain ⟨j, hj⟩ := List.mem_iff_getElem?.1 (List.mem_of_mem_take ho')
        obtain ⟨hjm, hj'⟩ := (hget j o').1 hj
        exact hn j hjm (by unfold dstAt; rw [hj']; exact hd')
    · have hli := (hget i o).2 ⟨him, ho⟩
      rw [putAll_at _ _ _ i o d' hl hli hd' (huniq i o d' hli hd'), hd', put_at, if_pos rfl, hsi.1, hc]
  · exfalso
    have : j < ops.size := by omega
    simp [this] at hl
  · unfold cntB
    have := List.countP_le_length (p := fun j => !(Array.replicate ops.size false).getD j true) (l := List.range m)
    rw [List.length_range] at this
    omega
end
end Go.Proofs.YteecgklmdfockaaGreatDoor
namespace Go.Proofs.YteecgklmdfockaaGreatDoor
open Go.RowKit
theorem Cum.up {a b x w : World} {n : Nat} (_h : Cum a b) (_k : Below n x w) (h : Below a.heap.size a w) : Cum a w := ⟨h⟩
end Go.Proofs.YteecgklmdfockaaGreatDoor
namespace Go.Proofs.YteecgklmdfockaaGreatDoor
open Go.RowKit
theorem GrowK.empty {n base B : Nat} {w : World} (hB : B = w.heap.size) (hb : base ≤ w.heap.size) : GrowK n base (w.alloc (.cells #[] 30)).heap.size (w.alloc (.cells #[] 30)) [] (.slice (some ⟨B, 0, none⟩) 0 0) :=
  ⟨[], fun _ _ => False, rfl, fun _ h => (by cases h), own_empty hB hb, fun g h => (by simp [Value.ownBlock] at h; simp; omega), fun _ _ h => h.elim, fun _ _ _ h => h.elim, fun i d es h => (by simp at h)⟩
theorem own9 {wr W9 w9 : World} {o : Obj} {base n m size : Nat} {e : TypeId} {v : Value} {xs : List Value} (h : wr.ownsRow base e size v n xs) (hb : Below W9.heap.size W9 w9) (he : W9.heap = wr.heap) (hn : n = m) : (w9.alloc o).ownsRow base e size v m xs := by
  subst hn
  refine World.ownsRow.alloc (ownsRow_carry h (fun q hq => ?_)) o
  have := (h.lt q hq).2
  rw [← he] at this
  rw [hb.block q this, he]
theorem grown_at {w w' : World} {r q : Option Nat} (h : r = q) (k : w.grownBy w' q) : w.grownBy w' r := by subst h; exact k
theorem row9 {wr W9 w9 w2 : World} {o row : Obj} {r q : Option Nat} {b : Nat} (hrow : wr.heap[b]? = some row) (hb : Below W9.heap.size W9 w9) (he : W9.heap = wr.heap) (hg : (w9.alloc o).grownBy w2 q) (hr : r = q) (hn : r ≠ some b) : w2.heap[b]? = some row := by
  subst hr
  have h1 : b < W9.heap.size := by rw [he]; exact row_lt hrow
  have h2 := hb.size
  rw [hg.block b (by simp; omega) (fun e => hn e.symm), Below.heap_alloc w9 o b (by omega), hb.block b h1, he, hrow]
theorem blk9 {wr W9 w9 w2 : World} {o : Obj} {r q : Option Nat} {b : Nat} (hrow : b < wr.heap.size) (hb : Below W9.heap.size W9 w9) (he : W9.heap = wr.heap) (hg : (w9.alloc o).grownBy w2 q) (hr : r = q) (hn : r ≠ some b) : w2.heap[b]? = wr.heap[b]? := by
  subst hr
  have h1 : b < W9.heap.size := by rw [he]; exact hrow
  have h2 := hb.size
  rw [hg.block b (by simp; omega) (fun e => hn e.symm), Below.heap_alloc w9 o b (by omega), hb.block b h1, he]
theorem old9 {wr W9 w9 : World} {o : Obj} {b : Nat} (hrow : b < wr.heap.size) (hb : Below W9.heap.size W9 w9) (he : W9.heap = wr.heap) : (w9.alloc o).heap[b]? = wr.heap[b]? := by
  have h1 : b < W9.heap.size := by rw [he]; exact hrow
  have h2 := hb.size
  rw [Below.heap_alloc w9 o b (by omega), hb.block b h1, he]
end Go.Proofs.YteecgklmdfockaaGreatDoor
namespace Go.Proofs.YteecgklmdfockaaGreatDoor
open Go.RowKit
def T_l08 (n : Nat) : Prop := ∀ (d : TreeD) (cs : List Value) (w : World) (lo : Nat) (_ : C_Tree n lo w.heap.size w d cs) (_ : nTree n d ≤ 1048576),
    Calls Tryz.prog 74 #[.agg cs.toArray] w fun e w' => ∃ cs', e = .returned (.agg cs'.toArray) ∧ OwnT n (fun b => w.heap.size ≤ b ∧ b < w'.heap.size) w' d cs' ∧ Below w.heap.size w w'
set_option maxHeartbeats 2000000 in
set_option maxRecDepth 10000 in
theorem of_l08 (n : Nat) (ih : T_l08 n) : T_l08 (n + 1) := by
  intro d cs w lo h hn
  obtain ⟨i0, hi, hz0, hz1, hz2⟩ := info_parts (show (Tryz.prog.info? 30).map (fun i => (i.zero, i.size, i.bytes)) = some (some (.agg #[.int .i64 0, .bool false, .int .i64 0, .string ⟨#[]⟩, .slice none 0 0, .slice none 0 0]), 6, 88) from by kernel_rfl)
  obtain ⟨j0, gi, gz0, gz1, gz2⟩ := info_parts (show (Tryz.prog.info? 9).map (fun i => (i.zero, i.size, i.bytes)) = some (some (.string ⟨#[]⟩), 1, 16) from by kernel_rfl)
  obtain ⟨v4, v5, rfl, a0, a2, a3, a4, a5⟩ := h.out
  obtain ⟨A4, c4, rfl⟩ := a4.form
  obtain ⟨A5, c5, rfl, hlc, hcc, hA⟩ := a5
  rw [nTree_succ] at hn
  have m4 : d.keys.length ≤ 1048576 := by have := nL_def ByteArray.size d.keys; omega
  have m5 : d.kids.length ≤ 1048576 := by have := nL_def (nTree n) d.kids; omega
  go_enter Tryz.func74, Tryz.ntmps74
  go_wp2_with (at_builtin; refine wpList_append_strs rfl _ _ 27 rfl (w.heap.size + 3) 9 j0 (.string ⟨#[]⟩) 16 Tryz.underlying27 gi gz0 gz1 gz2 rfl _ 0 [] rfl (own_empty (by simp) (by simp)) d.keys A4 c4 lo w.heap.size rfl (Sl_Str.keep a4 (by repeat (first | (with_reducible exact Same.refl _ _ _) | ((with_reducible refine same_setCell ?_ ?_); focus (simp; (try omega))) | ((with_reducible refine same_alloc ?_ ?_); focus (simp; (try omega))) | (with_reducible refine same_drewN ?_ _) | ((with_reducible (apply same_step; assumption)); focus (simp; (try omega))))) (Nat.le_refl _) (Nat.le_refl _)) (by omega) (by omega) (by simp) ?_)
  intro v' w1 hown hgrow hat
  have hgs : GrowS (w.heap.size + 3) w1.heap.size w1 d.keys v' := ⟨hown, fun g hg => (hown.lt g hg).2, size_strs a4⟩
  obtain ⟨B4, b4, rfl⟩ := hgs.form
  have hA1 : w1.heap[w.heap.size]? = some (.cells #[.int .i64 d.kind, .bool d.flag, .int .i64 d.num, .string d.text, .slice A4 d.keys.length c4, .slice A5 d.kids.length c5] 30 (0, 0)) := (hgrow.block w.heap.size (by simp; try omega) (by simp [Value.ownBlock]; try omega)).trans ((Below.heap_alloc _ _ _ (by simp; try omega)).trans ((Below.heap_alloc _ _ _ (by simp; try omega)).trans ((Below.heap_alloc _ _ _ (by simp)).trans (heap_alloc_new _ _))))
  have hZ1 : w1.heap[w.heap.size + 1]? = some (.cells #[.int .i64 0, .bool false, .int .i64 0, .string ⟨#[]⟩, .slice none 0 0, .slice none 0 0] 30 (0, 0)) := (hgrow.block (w.heap.size + 1) (by simp; try omega) (by simp [Value.ownBlock]; try omega)).trans ((Below.heap_alloc _ _ _ (by simp; try omega)).trans ((Below.heap_alloc _ _ _ (by simp)).trans (heap_at (by simp))))
  have hT1 : w1.heap[w.heap.size + 2]? = some (.cells #[.int .i64 d.kind, .bool d.flag, .int .i64 d.num, .string d.text, .slice A4 d.keys.length c4, .slice A5 d.kids.length c5] 30 (0, 0)) := (hgrow.block (w.heap.size + 2) (by simp; try omega) (by simp [Value.ownBlock]; try omega)).trans ((Below.heap_alloc _ _ _ (by simp)).trans (heap_at (by simp)))
  have hs1 : w.heap.size + 4 ≤ w1.heap.size := by have := hgrow.size; simpa using this
  have hb1 : Below w.heap.size w w1 := Below.grown (bel : Below w.heap.size w _) hgrow (by simp; omega) (fun q hq => by simp [Value.ownBlock] at hq; omega)
  obtain ⟨t0, t1, t2, t3, t4, t5, tf⟩ := row6 hT1
  obtain ⟨y0, y1, y2, y3, y4, y5, yf⟩ := row6 hA1
  have HA1 := Lib.hid hA1
  have HZ1 := Lib.hid hZ1
  have HT1 := Lib.hid hT1
  have Hgs := Lib.hid hgs
  clear hA1 hZ1 hT1 hgs hgrow hat hown
  have hq0 : w.heap.size < w1.heap.size := by omega
  have hq1 : w.heap.size + 1 < w1.heap.size := by omega
  have hq2 : w.heap.size + 2 < w1.heap.size := by omega
  have hq3 : w.heap.size + 1 + 1 < w1.heap.size := by omega
  go_wp2_with fail
  go_loopw [4] (fun i wr => ∃ (k : Nat) (K : Option Addr) (c : Nat), k ≤ d.kids.length ∧ i = .int .i64 k ∧ wr.heap[w.heap.size]? = some (.cells #[.int .i64 d.kind, .bool d.flag, .int .i64 d.num, .string d.text, .slice A4 d.keys.length c4, .slice A5 d.kids.length c5] 30 (0, 0)) ∧ wr.heap[w.heap.size + 1]? = some (.cells #[.int .i64 0, .bool false, .int .i64 0, .string ⟨#[]⟩, .slice none 0 0, .slice none 0 0] 30 (0, 0)) ∧ wr.heap[w.heap.size + 2]? = some (.cells #[.int .i64 d.kind, .bool d.flag, .int .i64 d.num, .string d.text, .slice B4 d.keys.length b4, .slice K k c] 30 (0, 0)) ∧
    GrowK n w1.heap.size wr.heap.size wr (d.kids.take k) (.slice K k c) ∧ OwnS (fun b => w.heap.size + 3 ≤ b ∧ b < w1.heap.size) wr d.keys (.slice B4 d.keys.length b4) ∧ Below w.heap.size w wr ∧ w1.heap.size ≤ wr.heap.size) (fun i _ => d.kids.length - (intOf i).toNat)
  case atStart =>
    refine ⟨0, some ⟨w1.heap.size, 0, none⟩, 0, Nat.zero_le _, rfl, ?_, ?_, ?_, GrowK.empty (by simp) (by simp), Hgs.out.own.carry (fun b hb => (Below.heap_alloc _ _ b (by simp; omega)).trans ((Below.heap_setCell _ _ _ b (by simp; omega)).trans (Below.heap_setCell _ _ _ b (by simp; omega)))) (fun _ h => h), bel, by simp⟩
    · exact (Below.heap_alloc _ _ _ (by simp; omega)).trans ((Below.heap_setCell _ _ _ _ (by simp; try omega)).trans ((Below.heap_setCell _ _ _ _ (by simp; try omega)).trans HA1.out))
    · exact (Below.heap_alloc _ _ _ (by simp; omega)).trans ((Below.heap_setCell _ _ _ _ (by simp; try omega)).trans ((Below.heap_setCell _ _ _ _ (by simp; try omega)).trans HZ1.out))
    · exact (Below.heap_alloc _ _ _ (by simp; omega)).trans (heap_setCell_same _ (w.heap.size + 2) 5 _ _ _ (heap_setCell_same _ (w.heap.size + 2) 4 _ _ _ HT1.out))
  case round =>
    clear t0 t1 t2 t3 t4 t5 tf y0 y1 y2 y3 y4 y5 yf
    obtain ⟨k, K, c, hk, rfl, hA1, hZ1, hT1, hgk, hks, hbr, hwr⟩ := hrel
    obtain ⟨t0, t1, t2, t3, t4, t5, tf⟩ := row6 hT1
    obtain ⟨y0, y1, y2, y3, y4, y5, yf⟩ := row6 hA1
    have tl := row_lt hT1
    have yl := row_lt hA1
    have RA := Lib.hid hA1
    have RZ := Lib.hid hZ1
    have RT := Lib.hid hT1
    have Hks := Lib.hid hks
    have Hgk := Lib.hid hgk
    have hbs := hbr.size
    clear hA1 hZ1 hT1 hks hgk
    by_cases hlt : k < d.kids.length
    · obtain ⟨b, o, rfl, -, hb2, hcell⟩ := hA (by omega)
      obtain ⟨f, hf⟩ := exists_at hlt
      obtain ⟨es, -, hcs, hC⟩ := hcell k f hf
      have hC' := hC
      obtain ⟨eA4, ec4, eA5, ec5, rfl, ea0, ea2, ea3⟩ := hC'.flat
      have hc0 := (hbr.cell (p := ⟨b, o + k * 6 + 0, none⟩) (by simp; omega)).trans (hcs 0 (by omega))
      have hc1 := (hbr.cell (p := ⟨b, o + k * 6 + 1, none⟩) (by simp; omega)).trans (hcs 1 (by omega))
      have hc2 := (hbr.cell (p := ⟨b, o + k * 6 + 2, none⟩) (by simp; omega)).trans (hcs 2 (by omega))
      have hc3 := (hbr.cell (p := ⟨b, o + k * 6 + 3, none⟩) (by simp; omega)).trans (hcs 3 (by omega))
      have hc4 := (hbr.cell (p := ⟨b, o + k * 6 + 4, none⟩) (by simp; omega)).trans (hcs 4 (by omega))
      have hc5 := (hbr.cell (p := ⟨b, o + k * 6 + 5, none⟩) (by simp; omega)).trans (hcs 5 (by omega))
      simp at hc0 hc1 hc2 hc3 hc4 hc5
      have hbl : b < wr.heap.size := Nat.lt_of_lt_of_le hb2 hbr.size
      have hnd : nTree n f ≤ 1048576 := by have := nL_def (nTree n) d.kids; have := szL_take_succ (nTree n) d.kids k f hf; have := szL_take_le (nTree n) d.kids (k+1); omega
      have Htk := Lib.hid (show d.kids.take (k + 1) = d.kids.take k ++ [f] by rw [List.take_add_one, hf]; rfl)
      have Hlen := Lib.hid (show (d.kids.take k).length = k by rw [List.length_take]; omega)
      have hk0 : (0 : Int) ≤ k := by omega
      have hk1 : (k : Int) < d.kids.length := by omega
      obtain ⟨ess, F, e1, e2, e3, e4, e5, e6, e7⟩ := Hgk.out
      obtain ⟨r, hr⟩ : ∃ r, r = (Value.slice K k c).ownBlock := ⟨_, rfl⟩
      have hrl : ∀ q, r = some q → w1.heap.size ≤ q := fun q hq => (e3.lt q (by rw [← hr]; exact hq)).1
      have hn0 : r ≠ some w.heap.size := fun h => by have := hrl _ h; omega
      have hn1 : r ≠ some (w.heap.size + 1) := fun h => by have := hrl _ h; omega
      have hn2 : r ≠ some (w.heap.size + 1 + 1) := fun h => by have := hrl _ h; omega
      have hnb : r ≠ some b := fun h => by have := hrl _ h; omega
      have Hrl := Lib.hid hrl
      have Hr := Lib.hid hr
      have E := Lib.hid (And.intro e1 (And.intro e2 (And.intro e3 (And.intro e4 (And.intro e5 (And.intro e6 e7))))))
      clear hcs hcell hA hf hrl hr e1 e2 e3 e4 e5 e6 e7
      go_wp2_with fail
      go_region_law (first | (go_simp; go_at_call 74; refine (ih f _ _ lo (hC.now bel) hnd).mono ?_; rintro e w9 ⟨cs9, rfl, ho9, hb9⟩; obtain ⟨fA4, fc4, fA5, fc5, rfl, fa0, fa2, fa3⟩ := ho9.flat; obtain ⟨-, -, -, -, -, p5, -⟩ := row6 ((hb9.block (w.heap.size + 1 + 1) tl).trans RT.out); have p9 : w.heap.size + 1 + 1 < w9.heap.size := Nat.lt_of_lt_of_le tl hb9.size) | (refine step_append_lies _ rfl _ _ 28 rfl w1.heap.size 30 i0 (.agg #[.int .i64 0, .bool false, .int .i64 0, .string ⟨#[]⟩, .slice none 0 0, .slice none 0 0]) 6 88 Tryz.underlying28 hi hz0 hz1 hz2 rfl (by decide) _ k ess.flatten rfl (own9 E.out.2.2.1 hb9 rfl Hlen.out) ⟨w9.heap.size, 0, none⟩ 1 1 [.int .i64 f.kind, .bool f.flag, .int .i64 f.num, .string f.text, .slice fA4 f.keys.length fc4, .slice fA5 f.kids.length fc5] rfl rfl (World.news_of_block (heap_alloc_new w9 _)) ho9.one (by decide) (by unfold maxLen; omega) (by omega) (by have := hb9.size; simp at this ⊢; omega) _ rfl ?_; intro g cap w2 hown2 hgrow2 hat2 hlt2; have hgrow3 := grown_at Hr.out hgrow2; obtain ⟨-, -, -, -, -, q5, qf⟩ := row6 (row9 RT.out hb9 rfl hgrow2 Hr.out hn2)))
      all_goals
        have hs9 : wr.heap.size ≤ w9.heap.size := hb9.size
        have hB9 : Below w.heap.size w w9 := bel
        have hB2 := Below.grown (hB9.alloc (by omega) (.cells #[.int .i64 f.kind, .bool f.flag, .int .i64 f.num, .string f.text, .slice fA4 f.keys.length fc4, .slice fA5 f.kids.length fc5] 30)) hgrow2 (by simp; omega) (fun q hq => by have := Hrl.out q (Hr.out.trans hq); omega)
        have hP := GrowK.push (n := n) (base := w1.heap.size) (hi := wr.heap.size) (w := w9.alloc (.cells #[.int .i64 f.kind, .bool f.flag, .int .i64 f.num, .string f.text, .slice fA4 f.keys.length fc4, .slice fA5 f.kids.length fc5] 30)) (S := fun b => wr.heap.size ≤ b ∧ b < w9.heap.size) k Hlen.out (by simp; omega) (ho9.carry (fun b hb => Below.heap_alloc _ _ b hb.2) (fun b hb => hb)) (fun b hb => by simp; omega) hwr ess F E.out.1 E.out.2.1 E.out.2.2.2.1 E.out.2.2.2.2.1 E.out.2.2.2.2.2.1
          (fun i d' es' h1 h2 => (E.out.2.2.2.2.2.2 i d' es' h1 h2).carry (fun b hb => old9 (E.out.2.2.2.2.1 i b hb).2.1 hb9 rfl) (fun _ h => h)) hown2 hgrow2 (hat2.imp id (fun h => by rw [h]; simp)) hlt2
        have RA2 := row9 RA.out hb9 rfl hgrow2 Hr.out hn0
        have RZ2 := row9 RZ.out hb9 rfl hgrow2 Hr.out hn1
        have RT2 := row9 RT.out hb9 rfl hgrow2 Hr.out hn2
        have KS2 := Hks.out.carry (w' := w2) (fun b hb => blk9 (by omega) hb9 rfl hgrow2 Hr.out (fun h => by have := Hrl.out b h; omega)) (fun _ h => h)
        have hs2 := hgrow2.size
        simp at hs2
        clear hgrow2 hgrow3 hown2 hat2
        go_wp2_with fail
        go_roundw
        case rel =>
          refine ⟨k + 1, some ⟨g, 0, none⟩, cap, by omega, by go_num, (Below.heap_setCell _ _ _ _ (by simp; try omega)).trans RA2, (Below.heap_setCell _ _ _ _ (by simp; try omega)).trans RZ2, heap_setCell_same w2 (w.heap.size + 1 + 1) 5 _ _ _ RT2, ?_, KS2.carry (fun b hb => Below.heap_setCell _ _ _ b (by simp; omega)) (fun _ h => h), Below.setCell hB2 (by simp; omega) _, by simp; omega⟩
          rw [Htk.out]
          exact hP.carry (by simp) (fun q h1 _ => Below.heap_setCell _ _ _ q (by simp; omega))
        case measure => simp [intOf]; omega
    · obtain rfl : k = d.kids.length := by omega
      have hgk := Hgk.out
      rw [List.take_length] at hgk
      have Hg2 := Lib.hid hgk
      obtain ⟨z0, z1, z2, z3, z4, z5, zf⟩ := row6 RZ.out
      have zl : w.heap.size + 1 < wr.heap.size := row_lt RZ.out
      clear hA hgk
      go_wp2_with fail
      refine bodyPost_ret (v := .agg #[.int .i64 d.kind, .bool d.flag, .int .i64 d.num, .string d.text, .slice B4 d.keys.length b4, .slice K d.kids.length c]) (by simp only [results, Tryz.results74]; go_simp) rfl ⟨[.int .i64 d.kind, .bool d.flag, .int .i64 d.num, .string d.text, .slice B4 d.keys.length b4, .slice K d.kids.length c], rfl, OwnT.into ⟨_, _, fun b => w.heap.size + 3 ≤ b ∧ b < w1.heap.size, fun b => w1.heap.size ≤ b ∧ b < wr.heap.size, rfl, a0, a2, a3, ?_, ?_, Hks.out.carry ?_ (fun _ h => h), Hg2.out.own.keep ?_ (fun _ h => h)⟩, bel⟩
      · intro b hb; simp; omega
      · intro b hb; simp; omega
      · intro b hb
        exact Aside.block (S := fun b => b = w.heap.size + 1) (w := wr) (by repeat (first | (with_reducible exact Aside.refl _ _) | ((with_reducible refine aside_set ?_ ?_); (focus (simp; done))) | (with_reducible refine aside_alloc ?_))) b (by omega) (by omega)
      · intro b hb
        exact Aside.block (S := fun b => b = w.heap.size + 1) (w := wr) (by repeat (first | (with_reducible exact Aside.refl _ _) | ((with_reducible refine aside_set ?_ ?_); (focus (simp; done))) | (with_reducible refine aside_alloc ?_))) b (by omega) (by omega)
theorem all_l08 : ∀ n, T_l08 n
  | 0 => fun _ _ _ _ h _ => (C_Tree.none h).elim
  | n + 1 => of_l08 n (all_l08 n)
end Go.Proofs.YteecgklmdfockaaGreatDoor
namespace Go.Proofs.YteecgklmdfockaaGreatDoor
open Go.RowKit
def tree0 : TreeD := ⟨0, false, 0, ⟨#[]⟩, [], []⟩
end Go.Proofs.YteecgklmdfockaaGreatDoor
namespace Go.Proofs.YteecgklmdfockaaGreatDoor
open Go.RowKit
def zeroC : List Value := [.int .i64 0, .bool false, .int .i64 0, .string ⟨#[]⟩, .slice none 0 0, .slice none 0 0]
def leafC (t : ByteArray) : List Value := [.int .i64 4, .bool false, .int .i64 0, .string t, .slice none 0 0, .slice none 0 0]
theorem six_push {css : List (List Value)} {es : List Value} (h : ∀ es ∈ css, es.length = 6) (he : es.length = 6) : ∀ fs ∈ css ++ [es], fs.length = 6 := by
  intro fs hf
  rcases List.mem_append.1 hf with hf | hf
  · exact h fs hf
  · rw [List.mem_singleton.1 hf]; exact he
/-- The box tb holds a map with the keys ks and the kids whose cells are css; both lie in rows of the call's own behind block base. -/
structure LeafMap (base tb : Nat) (w : World) (ks : List ByteArray) (css : List (List Value)) (vk vl : Value) : Prop where
  row : w.heap[tb]? = some (.cells #[.int .i64 6, .bool false, .int .i64 0, .string ⟨#[]⟩, vk, vl] 30 (0, 0))
  keys : w.ownsRow base 9 1 vk ks.length (ks.map Value.string)
  kids : w.ownsRow base 30 6 vl css.length css.flatten
  six : ∀ es ∈ css, es.length = 6
  lt : tb < base
/-- The last element of a row is turned. -/
theorem own_put {w : World} {base : Nat} {e : TypeId} {g n cap : Nat} {xs zs us : List Value} (h : w.ownsRow base e 6 (.slice (some ⟨g, 0, none⟩) (n + 1) cap) (n + 1) (xs ++ zs)) (hx : xs.length = n * 6) (_hz : zs.length = 6) (hu : us.length = 6) :
    (putCells w g (n * 6) us).ownsRow base e 6 (.slice (some ⟨g, 0, none⟩) (n + 1) cap) (n + 1) (xs ++ us) := by
  obtain ⟨cur, hg, hn, hcm, hcs, ht, hb⟩ := own_row h
  have hfit : n * 6 + 6 ≤ cur.size := by rw [hcs]; have := Nat.mul_le_mul_right 6 hn; omega
  refine ⟨by simp [hx, hu]; omega, .inr ⟨g, cap, _, rfl, hb, heap_putCells us w g (n * 6) cur e hg, hn, hcm, by rw [size_putAt]; exact hcs, ?_⟩⟩
  apply List.ext_getElem?
  intro i
  rw [List.getElem?_take]
  by_cases hi : i < (n + 1) * 6
  · rw [if_pos hi, Array.getElem?_toList]
    by_cases hi2 : i < n * 6
    · rw [get_putAt_lt _ _ _ _ hi2, List.getElem?_append_left (by omega)]
      have : (cur.toList.take ((n + 1) * 6))[i]? = (xs ++ zs)[i]? := by rw [ht]
      rw [List.getElem?_take, if_pos hi, List.getElem?_append_left (by omega), Array.getElem?_toList] at this
      exact this
    · have e : i = n * 6 + (i - n * 6) := by omega
      rw [e, get_putAt us cur (n * 6) (i - n * 6) (by omega) (by omega), List.getElem?_append_right (by omega)]
      congr 1
      omega
  · rw [if_neg hi, List.getElem?_eq_none (by simp [hx, hu]; omega)]
theorem own_last {w : World} {base : Nat} {e : TypeId} {g n cap : Nat} {xs : List Value} (h : w.ownsRow base e 6 (.slice (some ⟨g, 0, none⟩) (n + 1) cap) (n + 1) (xs ++ zeroC)) (hx : xs.length = n * 6) :
    w.cell? ⟨g, n * 6, none⟩ = some (.int .i64 0) ∧ w.cell? ⟨g, n * 6 + 1, none⟩ = some (.bool false) ∧ w.cell? ⟨g, n * 6 + 2, none⟩ = some (.int .i64 0) ∧ w.cell? ⟨g, n * 6 + 3, none⟩ = some (.string ⟨#[]⟩) ∧ w.cell? ⟨g, n * 6 + 4, none⟩ = some (.slice none 0 0) ∧ w.cell? ⟨g, n * 6 + 5, none⟩ = some (.slice none 0 0) ∧ ∀ o, w.frozen? ⟨g, o, none⟩ = false := by
  obtain ⟨cur, hg, hn, hcm, hcs, ht, hb⟩ := own_row h
  have hc : ∀ j u, j < 6 → zeroC[j]? = some u → w.cell? ⟨g, n * 6 + j, none⟩ = some u := by
    intro j u hj hu
    rw [cell_of_row w g _ cur _ _ hg]
    have : (cur.toList.take ((n + 1) * 6))[n * 6 + j]? = some u := by rw [ht, List.getElem?_append_right (by omega), hx, Nat.add_sub_cancel_left]; exact hu
    rw [List.getElem?_take, if_pos (by omega), Array.getElem?_toList] at this
    exact this
  exact ⟨hc 0 _ (by decide) rfl, hc 1 _ (by decide) rfl, hc 2 _ (by decide) rfl, hc 3 _ (by decide) rfl, hc 4 _ (by decide) rfl, hc 5 _ (by decide) rfl, fun o => frozen_row hg o⟩
theorem row_last {w : World} {tb : Nat} {a0 a1 a2 a3 a4 a5 v : Value} {e : TypeId} (h : w.heap[tb]? = some (.cells #[a0, a1, a2, a3, a4, a5] e (0, 0))) : (w.setCell ⟨tb, 5, none⟩ v).heap[tb]? = some (.cells #[a0, a1, a2, a3, a4, v] e (0, 0)) := heap_setCell_same _ tb 5 _ _ _ h
theorem leaf_fin {tb base g g2 cap cap2 : Nat} {w w2 wF : World} {ks : List ByteArray} {vs : List (List Value)} {key : ByteArray} {kc : List Value} {vk vl : Value} (h6 : ∀ es ∈ vs, es.length = 6) (hk6 : kc.length = 6) (hF : Aside (fun b => b = g2 ∨ b = tb) w2 wF) (hlt : tb < base) (hbg : base ≤ g2) (hgg : g ≠ g2)
    (hrow : wF.heap[tb]? = some (.cells #[.int .i64 6, .bool false, .int .i64 0, .string ⟨#[]⟩, .slice (some ⟨g, 0, none⟩) (ks.length + 1) cap, .slice (some ⟨g2, 0, none⟩) (vs.length + 1) cap2] 30 (0, 0)))
    (KK : w2.ownsRow base 9 1 (.slice (some ⟨g, 0, none⟩) (ks.length + 1) cap) (ks.length + 1) (ks.map Value.string ++ [.string key]))
    (hkids : wF.ownsRow base 30 6 (.slice (some ⟨g2, 0, none⟩) (vs.length + 1) cap2) (vs.length + 1) (vs.flatten ++ kc))
    (A2 : Aside (fun b => b = tb ∨ vk.ownBlock = some b ∨ vl.ownBlock = some b) w w2) (hat : vl.ownBlock = some g2 ∨ w.heap.size ≤ g2) :
    ∃ vk' vl', Ending.returned (.tuple #[]) = Ending.returned (.tuple #[]) ∧ LeafMap base tb wF (ks ++ [key]) (vs ++ [kc]) vk' vl' ∧ Aside (fun b => b = tb ∨ vk.ownBlock = some b ∨ vl.ownBlock = some b) w wF := by
  refine ⟨_, _, rfl, ⟨hrow, ?_, ?_, six_push h6 hk6, hlt⟩, ?_⟩
  · simpa using ownsRow_carry KK (fun q hq => by
      simp [Value.ownBlock] at hq
      subst hq
      have := KK.lt g rfl
      exact hF.block g this.2 (by omega))
  · rw [List.flatten_append, List.length_append]
    simpa using hkids
  · exact ⟨hF.os.trans A2.os, hF.tape.trans A2.tape, hF.output.trans A2.output, Nat.le_trans A2.size hF.size, fun b hb hn => (hF.block b (Nat.lt_of_lt_of_le hb A2.size) (by
      rintro (rfl | rfl)
      · rcases hat with hat | hat
        · exact hn (.inr (.inr hat))
        · omega
      · exact hn (.inl rfl))).trans (A2.block b hb hn)⟩
set_option maxHeartbeats 4000000 in
set_option maxRecDepth 10000 in
theorem c_addKid (ks : List ByteArray) (vs : List (List Value)) (key t : ByteArray) (k m : Int) (f : Bool) (B4 B5 : Option Addr) (n4 d4 n5 d5 : Nat) (vk vl : Value) (tb base : Nat) (w : World) (h : LeafMap base tb w ks vs vk vl) (hb : base ≤ w.heap.size) (hk : ks.length ≤ 1048576) (hv : vs.length ≤ 1048576) :
    Calls Tryz.prog 32 #[.pointer (some ⟨tb, 0, none⟩), .string key, .agg #[.int .i64 k, .bool f, .int .i64 m, .string t, .slice B4 n4 d4, .slice B5 n5 d5]] w fun e w' => ∃ vk' vl', e = .returned (.tuple #[]) ∧ LeafMap base tb w' (ks ++ [key]) (vs ++ [[.int .i64 k, .bool f, .int .i64 m, .string t, .slice B4 n4 d4, .slice B5 n5 d5]]) vk' vl' ∧ Aside (fun b => b = tb ∨ vk.ownBlock = some b ∨ vl.ownBlock = some b) w w' := by
  obtain ⟨i0, hi, hz0, hz1, hz2⟩ := info_parts (show (Tryz.prog.info? 30).map (fun i => (i.zero, i.size, i.bytes)) = some (some (.agg #[.int .i64 0, .bool false, .int .i64 0, .string ⟨#[]⟩, .slice none 0 0, .slice none 0 0]), 6, 88) from by kernel_rfl)
  obtain ⟨j0, gi, gz0, gz1, gz2⟩ := info_parts (show (Tryz.prog.info? 9).map (fun i => (i.zero, i.size, i.bytes)) = some (some (.string ⟨#[]⟩), 1, 16) from by kernel_rfl)
  obtain ⟨hrow, hkeys, hkids, h6, hlt⟩ := h
  obtain ⟨A4, c4, rfl⟩ := own_form hkeys
  obtain ⟨A5, c5, rfl⟩ := own_form hkids
  obtain ⟨x0, x1, x2, x3, x4, x5, xf⟩ := row6 hrow
  have hl1 := row_lt hrow
  have hl2 : tb < w.heap.size + 1 := by omega
  have Hrow := Lib.hid hrow
  have Hkeys := Lib.hid hkeys
  have Hkids := Lib.hid hkids
  have Hap := Lib.hid (own_apart hkeys hkids (by decide))
  clear hrow hkeys hkids
  go_enter Tryz.func32, Tryz.ntmps32
  go_wp2_with (at_builtin; refine wpList_append_lies _ rfl (.tmp 10) (.tmp 12) 27 rfl base 9 j0 (.string ⟨#[]⟩) 1 16 Tryz.underlying27 gi gz0 gz1 gz2 rfl (by decide) _ ks.length (ks.map Value.string) rfl ((Hkeys.out.alloc _).alloc _) _ 1 1 [.string key] rfl rfl (World.news_of_block (heap_at (by simp))) (by intro u hu; simp at hu; subst hu; rfl) (by decide) (by unfold maxLen; omega) (by omega) (by simp; omega) _ rfl ?_)
  intro g cap w1 hown hgrow hat hlt1
  have hs1 := hgrow.size
  simp at hs1
  have R1 : w1.heap[tb]? = some (.cells #[.int .i64 6, .bool false, .int .i64 0, .string ⟨#[]⟩, .slice A4 ks.length c4, .slice A5 vs.length c5] 30 (0, 0)) := (hgrow.block tb (by simp; omega) (fun e => by have := (Hkeys.out.lt tb e.symm).1; omega)).trans ((Below.heap_alloc _ _ _ (by simp; omega)).trans ((Below.heap_alloc _ _ _ hl1).trans Hrow.out))
  have X1 : w1.heap[w.heap.size]? = some (.cells #[.int .i64 k, .bool f, .int .i64 m, .string t, .slice B4 n4 d4, .slice B5 n5 d5] 30 (0, 0)) := (hgrow.block w.heap.size (by simp; try omega) (fun e => by have := (Hkeys.out.lt _ e.symm).2; omega)).trans ((Below.heap_alloc _ _ _ (by simp)).trans (heap_alloc_new _ _))
  have K1 : w1.ownsRow base 30 6 (.slice A5 vs.length c5) vs.length vs.flatten := ownsRow_carry Hkids.out (fun q hq => (hgrow.block q (by have := (Hkids.out.lt q hq).2; simp; omega) (fun e => Hap.out q e.symm hq)).trans ((Below.heap_alloc _ _ _ (by have := (Hkids.out.lt q hq).2; simp; omega)).trans (Below.heap_alloc _ _ _ (Hkids.out.lt q hq).2)))
  have A1 : Aside (fun b => b = tb ∨ (Value.slice A4 ks.length c4).ownBlock = some b ∨ (Value.slice A5 vs.length c5).ownBlock = some b) w w1 := ⟨hgrow.os, hgrow.tape, hgrow.output, by omega, fun b hb1 hn => (hgrow.block b (by simp; omega) (fun e => hn (.inr (.inl e.symm)))).trans ((Below.heap_alloc _ _ _ (by simp; omega)).trans (Below.heap_alloc _ _ _ hb1))⟩
  obtain ⟨x0, x1, x2, x3, x4, x5, xf⟩ := row6 R1
  obtain ⟨y0, y1, y2, y3, y4, y5, yf⟩ := row6 X1
  have hl3 := row_lt R1
  have hl4 := row_lt X1
  have hne : w.heap.size ≠ tb := by omega
  have HR1 := Lib.hid R1
  have HX1 := Lib.hid X1
  have HK1 := Lib.hid K1
  have HA1 := Lib.hid A1
  have HO1 := Lib.hid hown
  clear R1 X1 K1 A1 hown hgrow hat
  go_wp2_with fail
  go_region_law (refine step_append_lies _ rfl (.tmp 19) (.tmp 22) 28 rfl base 30 i0 (.agg #[.int .i64 0, .bool false, .int .i64 0, .string ⟨#[]⟩, .slice none 0 0, .slice none 0 0]) 6 88 Tryz.underlying28 hi hz0 hz1 hz2 rfl (by decide) _ vs.length vs.flatten rfl ((ownsRow_setCell_below HK1.out (by simpa using hlt) _).alloc _) _ 1 1 zeroC rfl rfl (World.news_of_block (heap_at (by simp))) (by intro u hu; simp [zeroC] at hu; rcases hu with rfl | rfl | rfl | rfl | rfl <;> rfl) (by decide) (by unfold maxLen; omega) (by omega) (by simp; omega) _ rfl ?_; intro g2 cap2 w2 hown2 hgrow2 hat2 hlt2; have T2 : w2.heap[tb]? = some (.cells #[.int .i64 6, .bool false, .int .i64 0, .string ⟨#[]⟩, .slice (some ⟨g, 0, none⟩) (ks.length + 1) cap, .slice A5 vs.length c5] 30 (0, 0)) := (hgrow2.block tb (by simp; omega) (fun e => by have := (HK1.out.lt tb e.symm).1; omega)).trans ((Below.heap_alloc _ _ _ (by simp; omega)).trans (heap_setCell_same w1 tb 4 _ _ _ HR1.out)); have X2 : w2.heap[w.heap.size]? = some (.cells #[.int .i64 k, .bool f, .int .i64 m, .string t, .slice B4 n4 d4, .slice B5 n5 d5] 30 (0, 0)) := (hgrow2.block w.heap.size (by simp; omega) (fun e => by have := (Hkids.out.lt _ e.symm).2; omega)).trans ((Below.heap_alloc _ _ _ (by simp; omega)).trans ((Below.heap_setCell _ _ _ _ (by simp; omega)).trans HX1.out)); obtain ⟨-, -, -, -, -, t5, tf⟩ := row6 T2; obtain ⟨u0, u1, u2, u3, u4, u5, uf⟩ := row6 X2; obtain ⟨l0, l1, l2, l3, l4, l5, lf⟩ := own_last hown2 (flat_len vs h6); have hl5 := row_lt T2; have hl6 := row_lt X2; have hbg : base ≤ g2 := (own_row hown2).choose_spec.2.2.2.2.2; have hg2 : g2 ≠ tb := (by omega); have ib1 : (0 : Int) ≤ (vs.length : Int) := (by omega); have ib2 : (vs.length : Int) < ((vs.length + 1 : Nat) : Int) := (by omega); have ib3 : (vs.length : Int) < (vs.length : Int) + 1 := (by omega))
  all_goals
    have S2 := hgrow2.size
    simp at S2
    have KK : w2.ownsRow base 9 1 (.slice (some ⟨g, 0, none⟩) (ks.length + 1) cap) (ks.length + 1) (ks.map Value.string ++ [.string key]) := ownsRow_carry HO1.out (fun q hq => by
      have hq2 := HO1.out.lt q hq
      exact (hgrow2.block q (by simp; omega) (fun e => own_apart HO1.out HK1.out (by decide) q hq e.symm)).trans ((Below.heap_alloc _ _ _ (by simp; omega)).trans (Below.heap_setCell _ _ _ _ (by simp; omega))))
    have hgg : g ≠ g2 := fun e => own_apart KK hown2 (by decide) g rfl (by rw [e]; rfl)
    have A2 : Aside (fun b => b = tb ∨ (Value.slice A4 ks.length c4).ownBlock = some b ∨ (Value.slice A5 vs.length c5).ownBlock = some b) w w2 := HA1.out.trans ⟨hgrow2.os, hgrow2.tape, hgrow2.output, by omega, fun b hb1 hn => (hgrow2.block b (by simp; omega) (fun e => hn (.inr (.inr e.symm)))).trans ((Below.heap_alloc _ _ _ (by simp; omega)).trans (Below.heap_setCell _ _ _ _ (fun e => hn (.inl e))))⟩
    have HG2 : (Value.slice A5 vs.length c5).ownBlock = some g2 ∨ w.heap.size ≤ g2 := by
      rcases hat2 with h | h
      · exact .inl h
      · right; simp at h; omega
    have P2 := own_put (us := [.int .i64 k, .bool f, .int .i64 m, .string t, .slice B4 n4 d4, .slice B5 n5 d5]) hown2 (flat_len vs h6) rfl rfl
    have HT2 := Lib.hid T2
    clear hgrow2 hat2 X2 T2
    go_wp2_with fail
    have KP := own_put (us := [.int .i64 k, .bool f, .int .i64 m, .string t, .slice B4 n4 d4, .slice B5 n5 d5]) (ownsRow_setCell_below hown2 hlt (a := ⟨tb, 5, none⟩) (.slice (some ⟨g2, 0, none⟩) (vs.length + 1) cap2)) (flat_len vs h6) rfl rfl
    simp only [putCells, Nat.add_assoc, Nat.reduceAdd] at P2 KP
    refine bodyPost_end (v := .tuple #[]) (by simp only [results, Tryz.results32]; go_simp) rfl (leaf_fin (cap2 := cap2) h6 rfl (by repeat (first | (with_reducible exact Aside.refl _ _) | ((with_reducible refine aside_set ?_ ?_); (focus (simp; done))) | (with_reducible refine aside_alloc ?_))) hlt hbg hgg ?_ KK ?_ A2 HG2)
    · first
        | ((with_reducible refine row_last (a5 := .slice A5 vs.length c5) ?_); exact Eq.trans (Aside.block (S := fun b => b = g2) (w := w2) (by repeat (first | (with_reducible exact Aside.refl _ _) | ((with_reducible refine aside_set ?_ ?_); (focus (simp; done))) | (with_reducible refine aside_alloc ?_))) tb hl5 (by omega)) HT2.out)
        | exact Eq.trans (Aside.block (S := fun b => b = g2) (w := w2.setCell ⟨tb, 5, none⟩ (.slice (some ⟨g2, 0, none⟩) (vs.length + 1) cap2)) (by repeat (first | (with_reducible exact Aside.refl _ _) | ((with_reducible refine aside_set ?_ ?_); (focus (simp; done))) | (with_reducible refine aside_alloc ?_))) tb (by simpa using hl5) (by omega)) (row_last HT2.out)
    · first
        | ((with_reducible refine ownsRow_setCell_below ?_ hlt _); exact P2)
        | exact KP
end Go.Proofs.YteecgklmdfockaaGreatDoor
