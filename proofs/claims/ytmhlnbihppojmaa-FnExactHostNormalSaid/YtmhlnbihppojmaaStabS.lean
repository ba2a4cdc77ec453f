/- The library's insertion sort of labels over a row of the call's own. No conditions. -/
import Derived.Test.YtmhlnbihppojmaaStabM
import Derived.Test.YtmhlnbihppojmaaLaidN
import Derived.Test.YtmhlnbihppojmaaSortE
namespace Go.Proofs.Ytmhlnbihppojmaa
open Go.RowKit

def cmpK (x y : Label) : Int := cmpS x.key y.key
instance : Inhabited Label := ⟨⟨⟨#[]⟩, ⟨#[]⟩⟩⟩
theorem x_lab1 (x y : Label) (W : World) : Calls Try.prog 134 #[.agg #[.string x.key, .string x.value], .agg #[.string y.key, .string y.value]] W fun e w' => e = .returned (.int .i64 (cmpK x y)) ∧ Gr W w' := by
  go_enter Try.func134, Try.ntmps134
  go_wp2_with (go_at_call 100; refine (c_strings_Compare _ _ _).mono ?_; rintro e w9 ⟨rfl, rfl⟩)
  go_ret
  exact ⟨rfl, ((Gr.refl W).alloc _).alloc _⟩
theorem ltK : Go.Proofs.ltOf cmpK = fun x y => lessS x.key y.key := by
  funext x y
  show decide (cmpS x.key y.key < 0) = lessS x.key y.key
  rcases cmpS_cases x.key y.key with ⟨e, d⟩ | ⟨e, d, l⟩ | ⟨e, d, l⟩
  · rw [e, d, tot_S.irrefl]; rfl
  · rw [e, l]; rfl
  · rw [e, l]; rfl
theorem swo_key : Go.Sort.SWO (fun x y : Label => lessS x.key y.key) := ⟨fun x => (swo_of tot_S).irrefl x.key, fun x y z => (swo_of tot_S).trans x.key y.key z.key, fun x y z => (swo_of tot_S).ntrans x.key y.key z.key⟩
theorem perm_sub {a b : Nat} {l : List Label} {d' : Array Label} (h : Go.Sort.PermIn a b l.toArray d') : SubL d'.toList l := by
  obtain ⟨h1, h2, h3⟩ := h
  refine ⟨by simpa using h1, fun x hx => ?_⟩
  obtain ⟨i, hi⟩ := List.getElem?_of_mem hx
  have hil : i < d'.toList.length := (List.getElem?_eq_some_iff.1 hi).1
  have hid : i < d'.size := by simpa using hil
  have hill : i < l.length := by rw [h1] at hid; simpa using hid
  have hxi : d'[i]! = x := by
    rw [getElem!_pos d' i hid]
    have := (List.getElem?_eq_some_iff.1 hi).2
    simpa using this
  by_cases hab : i < a ∨ b ≤ i
  · have h4 := h2 i hab
    rw [hxi, getElem!_pos l.toArray i (by simpa using hill)] at h4
    rw [h4]
    simp
  · have hm : x ∈ (d'.extract a b).toList := by
      rw [Array.mem_toList_iff, Array.mem_extract_iff_getElem]
      refine ⟨i - a, by omega, ?_⟩
      have e : a + (i - a) = i := by omega
      rw [← hxi, getElem!_pos d' i hid]
      congr 1
    have h4 := h3.mem_iff.1 hm
    rw [Array.mem_toList_iff, Array.mem_extract_iff_getElem] at h4
    obtain ⟨k, hk, rfl⟩ := h4
    simp
theorem c_insLabel (l : List Label) (N g cap base a b : Nat) (w : World) (hN : l.length = N) (h : RowE encL 2 142 base w l (.slice (some ⟨g, 0, none⟩) N cap)) (hl : N ≤ 1048576) (hp : 0 < N) (hab : a ≤ b) (hb : b ≤ N) :
    Calls Try.prog 206 #[.slice (some ⟨g, 0, none⟩) N cap, .int .i64 a, .int .i64 b, .func (.func 134) #[] #[]] w fun e w' => ∃ l' : List Label, e = .returned (.tuple #[]) ∧ SubL l' l ∧ (a = 0 → b = N → l'.Perm l ∧ l'.Pairwise (fun x y => lessS y.key x.key = false)) ∧ RowE encL 2 142 base w' l' (.slice (some ⟨g, 0, none⟩) N cap) ∧ Aside (fun q => q = g) w w' := by
  subst hN
  obtain ⟨g', cap', cur, hv, -, hg, -, -, -, -⟩ := h.row encL_len hp
  simp only [Value.slice.injEq, Option.some.injEq, Addr.mk.injEq, and_true] at hv
  obtain ⟨rfl, -, rfl⟩ := hv
  have hH := h.holds encL_len (by decide) hp
  have eg : ∀ args w, (callFunc 134 args).run Try.prog w = .ok (.enter 134 args) w := enters_of Try.func134 (by kernel_rfl) rfl
  have hcon := AnyQ.insertionSortCmpFunc insLabel 2 Try.isAgg142 Try.sizeOf142 encL encL_len encL_one cmpK 134 #[] g 0 cap a b l.toArray w eg (fun m os dk _ x y => (x_lab1 x y _).mono fun e w' h => h) hH (row_lt hg) hab (by simpa using hb) (by rw [List.size_toArray]; omega)
  change Calls Try.prog 206 _ _ _ at hcon
  rw [List.size_toArray] at hcon
  refine hcon.mono ?_
  rintro e w' ⟨rfl, m, os, rfl⟩
  have hSWO : Go.Sort.SWO (Go.Proofs.ltOf cmpK) := by rw [ltK]; exact swo_key
  obtain ⟨hP, hS⟩ := Go.Sort.insertionSort_holds (lt := Go.Proofs.ltOf cmpK) hSWO l.toArray a b hab (by simpa using hb)
  obtain ⟨d', hd'⟩ : ∃ d', d' = Go.Sort.insertionSort (Go.Proofs.ltOf cmpK) l.toArray a b := ⟨_, rfl⟩
  rw [← hd'] at hP hS ⊢
  have hds : d'.size = l.length := by rw [hP.1, List.size_toArray]
  refine ⟨d'.toList, rfl, perm_sub hP, fun e1 e2 => ?_, h.sorted encL_len (by decide) hds, sorted_aside⟩
  subst e1 e2
  obtain ⟨q1, -, q3⟩ := hP
  refine ⟨?_, ?_⟩
  · have e1 : d'.extract 0 l.length = d' := by rw [← hds]; exact Array.extract_size
    have e2 : l.toArray.extract 0 l.length = l.toArray := by rw [show l.length = l.toArray.size by simp]; exact Array.extract_size
    rw [e1, e2] at q3
    exact q3
  · rw [ltK] at hS
    exact pair_of_sorted (lt := fun x y : Label => lessS x.key y.key) (by rw [hds]; exact hS)
end Go.Proofs.Ytmhlnbihppojmaa
