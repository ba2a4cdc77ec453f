/- Plain laws: the orders of taints and of tolerances are total. No program in sight. No conditions. -/
import Derived.Test.YtmhlnbihppojmaaOrder
import Derived.Test.YtmhlnbihppojmaaTaint3
namespace Go.Proofs.Ytmhlnbihppojmaa
open Go.RowKit

def eqS (a b : ByteArray) : Bool := a.toList == b.toList
theorem bless_tri : ∀ a b : List UInt8, Op.bytesLess a b = false → Op.bytesLess b a = false → a = b
  | [], [], _, _ => rfl
  | [], _ :: _, h, _ => by simp [Op.bytesLess] at h
  | _ :: _, [], _, h => by simp [Op.bytesLess] at h
  | x :: a, y :: b, h1, h2 => by
    simp only [Op.bytesLess, Bool.or_eq_false_iff, Bool.and_eq_false_iff, decide_eq_false_iff_not, beq_eq_false_iff_ne] at h1 h2
    have hxy : x = y := UInt8.le_antisymm (UInt8.not_lt.1 h2.1) (UInt8.not_lt.1 h1.1)
    subst hxy
    rw [bless_tri a b (h1.2.resolve_left (by simp)) (h2.2.resolve_left (by simp))]
theorem bless_trans2 : ∀ a b c : List UInt8, Op.bytesLess a b = true → Op.bytesLess b c = true → Op.bytesLess a c = true
  | _, _, [], _, h => by cases ‹List UInt8› <;> simp [Op.bytesLess] at h
  | [], _, _ :: _, _, _ => by simp [Op.bytesLess]
  | _ :: _, [], _ :: _, h, _ => by simp [Op.bytesLess] at h
  | x :: a, y :: b, z :: c, h1, h2 => by
    simp only [Op.bytesLess, Bool.or_eq_true, Bool.and_eq_true, decide_eq_true_eq, beq_iff_eq] at h1 h2 ⊢
    rcases h1 with h1 | ⟨rfl, h1⟩
    · rcases h2 with h2 | ⟨rfl, h2⟩
      · exact .inl (UInt8.lt_trans h1 h2)
      · exact .inl h1
    · rcases h2 with h2 | ⟨rfl, h2⟩
      · exact .inl h2
      · exact .inr ⟨rfl, bless_trans2 a b c h1 h2⟩
theorem bless_self : ∀ a : List UInt8, Op.bytesLess a a = false
  | [] => rfl
  | x :: a => by unfold Op.bytesLess; simp [UInt8.lt_irrefl, bless_self a]
theorem toList_inj {a b : ByteArray} (h : a.toList = b.toList) : a = b := by
  rw [ByteArray.toList_eq, ByteArray.toList_eq] at h
  cases a; cases b
  simp at h
  rw [h]
theorem tot_S : Tot lessS eqS :=
  ⟨fun a => bless_self _, fun _ _ _ h1 h2 => bless_trans2 _ _ _ h1 h2, fun _ _ h1 h2 => toList_inj (bless_tri _ _ h1 h2), fun a b => by
    unfold eqS
    rw [beq_iff_eq]
    exact ⟨toList_inj, fun h => by rw [h]⟩⟩
theorem tot_I : Tot (fun a b : Int => decide (a < b)) (fun a b => a == b) :=
  ⟨fun a => by simp, fun a b c h1 h2 => by simp at h1 h2 ⊢; omega, fun a b h1 h2 => by simp at h1 h2; omega, fun a b => beq_iff_eq⟩
theorem tot_B : Tot (fun a b : Bool => b && !a) (fun a b => a == b) :=
  ⟨fun a => by cases a <;> rfl, fun a b c h1 h2 => by cases a <;> cases b <;> cases c <;> simp at h1 h2 ⊢, fun a b h1 h2 => by cases a <;> cases b <;> simp at h1 h2 ⊢, fun a b => beq_iff_eq⟩
theorem Tot.lex {D A B : Type} {ltA eqA : A → A → Bool} {ltB eqB : B → B → Bool} (hA : Tot ltA eqA) (hB : Tot ltB eqB) (f : D → A) (g : D → B) (inj : ∀ a b, f a = f b → g a = g b → a = b) :
    Tot (fun a b => if !(eqA (f a) (f b)) then ltA (f a) (f b) else ltB (g a) (g b)) (fun a b => eqA (f a) (f b) && eqB (g a) (g b)) := by
  have eqA_refl : ∀ a, eqA a a = true := fun a => (hA.eq a a).2 rfl
  have ne : ∀ {a b}, ltA a b = true → eqA a b = false := fun {a b} h => by
    rcases h1 : eqA a b with _ | _
    · rfl
    · have := (hA.eq a b).1 h1
      subst this
      rw [hA.irrefl] at h
      cases h
  refine ⟨fun a => by simp only [eqA_refl, Bool.not_true, Bool.false_eq_true, if_false]; exact hB.irrefl _, fun a b c h1 h2 => ?_, fun a b h1 h2 => ?_, fun a b => ?_⟩
  · rcases e1 : eqA (f a) (f b) with _ | _
    · rw [e1] at h1
      simp only [Bool.not_false, if_true] at h1
      rcases e2 : eqA (f b) (f c) with _ | _
      · rw [e2] at h2
        simp only [Bool.not_false, if_true] at h2
        have h3 := hA.trans _ _ _ h1 h2
        rw [ne h3]
        simpa using h3
      · have := (hA.eq _ _).1 e2
        rw [← this, e1]
        simpa using h1
    · have h4 := (hA.eq _ _).1 e1
      rw [e1] at h1
      simp only [Bool.not_true, Bool.false_eq_true, if_false] at h1
      rw [h4]
      rcases e2 : eqA (f b) (f c) with _ | _
      · rw [e2] at h2
        simpa using h2
      · rw [e2] at h2
        simp only [Bool.not_true, Bool.false_eq_true, if_false] at h2 ⊢
        exact hB.trans _ _ _ h1 h2
  · rcases e1 : eqA (f a) (f b) with _ | _
    · have e2 : eqA (f b) (f a) = false := by
        rcases h3 : eqA (f b) (f a) with _ | _
        · rfl
        · have := (hA.eq _ _).1 h3
          rw [this, eqA_refl] at e1
          cases e1
      rw [e1] at h1
      rw [e2] at h2
      simp only [Bool.not_false, if_true] at h1 h2
      have := hA.tri _ _ h1 h2
      rw [this, eqA_refl] at e1
      cases e1
    · have h4 := (hA.eq _ _).1 e1
      rw [e1] at h1
      rw [← h4, eqA_refl] at h2
      simp only [Bool.not_true, Bool.false_eq_true, if_false] at h1 h2
      exact inj a b h4 (hB.tri _ _ h1 h2)
  · rw [Bool.and_eq_true, hA.eq, hB.eq]
    exact ⟨fun h => inj a b h.1 h.2, fun h => by rw [h]; exact ⟨rfl, rfl⟩⟩
def eqT (a b : Taint) : Bool := a.key.toList == b.key.toList && (a.value.toList == b.value.toList && a.effect == b.effect)
theorem tot_T : Tot lessT eqT :=
  Tot.lex (D := Taint) tot_S (Tot.lex (D := ByteArray × Int) tot_S tot_I Prod.fst Prod.snd (fun _ _ h1 h2 => Prod.ext h1 h2)) (fun a => a.key) (fun a => (a.value, a.effect)) (fun a b h1 h2 => by cases a; cases b; simp at h1 h2; rw [h1, h2.1, h2.2])
def eqTol (a b : Tolerance) : Bool := a.key.toList == b.key.toList && (a.equal == b.equal && (a.value.toList == b.value.toList && a.effect == b.effect))
theorem tot_Tol0 : Tot (fun a b : Tolerance => if !(a.key.toList == b.key.toList) then lessS a.key b.key else if !(a.equal == b.equal) then (b.equal && !a.equal) else if !(a.value.toList == b.value.toList) then lessS a.value b.value else decide (a.effect < b.effect)) eqTol :=
  Tot.lex (D := Tolerance) tot_S (Tot.lex (D := Bool × ByteArray × Int) tot_B (Tot.lex (D := ByteArray × Int) tot_S tot_I Prod.fst Prod.snd (fun _ _ h1 h2 => Prod.ext h1 h2)) Prod.fst Prod.snd (fun _ _ h1 h2 => Prod.ext h1 h2)) (fun a => a.key) (fun a => (a.equal, a.value, a.effect)) (fun a b h1 h2 => by cases a; cases b; simp at h1 h2; rw [h1, h2.1, h2.2.1, h2.2.2])
theorem tot_Tol : Tot lessTol eqTol := by
  have e : lessTol = fun a b : Tolerance => if !(a.key.toList == b.key.toList) then lessS a.key b.key else if !(a.equal == b.equal) then (b.equal && !a.equal) else if !(a.value.toList == b.value.toList) then lessS a.value b.value else decide (a.effect < b.effect) := by
    funext a b
    unfold lessTol
    rcases a.equal <;> rcases b.equal <;> simp
  rw [e]
  exact tot_Tol0
theorem lt_T : Go.Sort.SWO lessT := swo_of tot_T
theorem lt_Tol : Go.Sort.SWO lessTol := swo_of tot_Tol
end Go.Proofs.Ytmhlnbihppojmaa
