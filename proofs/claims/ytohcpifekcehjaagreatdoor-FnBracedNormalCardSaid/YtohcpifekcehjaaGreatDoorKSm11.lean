/- Steps to FnBracedNormal. No conditions. -/
import Derived.Test.YtohcpifekcehjaaGreatDoorKSm10
import Derived.Test.YtohcpifekcehjaaGreatDoorKSm4
import Derived.Test.YtohcpifekcehjaaGreatDoorKSm9
import Derived.Test.YtohcpifekcehjaaGreatDoorKSm5
import Derived.Test.YtohcpifekcehjaaGreatDoorKSm2
import Derived.Test.YtohcpifekcehjaaGreatDoorKSm6
import Derived.Test.YtohcpifekcehjaaGreatDoorKSm8
set_option maxHeartbeats 16000000
set_option maxRecDepth 20000
namespace Go.Proofs.YtohcpifekcehjaaGreatDoor
open Go.RowKit
def okT (n : Nat) (d : TreeD) : Bool := decide (depthT n d <= 8) && decide (sizeT n d <= 300) && shapeT n d
theorem okT_def (n : Nat) (d : TreeD) : okT n d = (decide (depthT n d <= 8) && decide (sizeT n d <= 300) && shapeT n d) := rfl
theorem c_impl_TreeOk (n : Nat) (d : TreeD) (cs : List Value) (w : World) (lo : Nat) (h : C_Tree n lo w.heap.size w d cs) (hz : sizeT n d <= 1073741824) (hT : Tabs w) :
  Calls Tryz.prog 81 #[.agg cs.toArray] w fun e w' => e = .returned (.bool (okT n d)) /\ Below w.heap.size w w' := by
 have Hf := Lib.hid (okT_def n d)
 have HD := Lib.hid (fun (w' : World) (hb : Below w.heap.size w w') => all_DepthI n d cs w' lo (h.now hb) hz)
 have HS := Lib.hid (fun (w' : World) (hb : Below w.heap.size w w') => all_SizeI n d cs w' lo (h.now hb) hz)
 have HN := Lib.hid (fun (w' : World) (hb : Below w.heap.size w w') => all_nodI n d cs w' lo (h.now hb) (hT.below hb))
 have hds := depth_size n d
 obtain ⟨A4, c4, A5, c5, rfl⟩ := C_Tree.open h
 obtain ⟨x, hx⟩ : ∃ x, x = depthT n d := ⟨_, rfl⟩
 obtain ⟨y, hy⟩ : ∃ y, y = sizeT n d := ⟨_, rfl⟩
 obtain ⟨z, hzz⟩ : ∃ z, z = shapeT n d := ⟨_, rfl⟩
 rw [<- hx, <- hy, <- hzz] at Hf
 rw [<- hx] at HD hds
 rw [<- hy] at HS hz hds
 rw [<- hzz] at HN
 clear h hx hy hzz hT
 by_cases h8 : x <= 8
 ·have d8 : decide ((x : Int) <= 8) = true := decide_eq_true (by omega)
  by_cases h3 : y <= 300
  ·have d3 : decide ((y : Int) <= 300) = true := decide_eq_true (by omega)
   have HX := Lib.hid (show okT n d = z by rw [Hf.out, decide_eq_true h8, decide_eq_true h3]; rfl)
   clear h8 h3
   go_enter Tryz.func81, Tryz.ntmps81
   go_wp2_with (first | (go_at_call 150; refine (HD.out _ bel).mono ?_; rintro e w1 ⟨rfl, hb⟩; (first | (have hcu2 := Cum.join hcu hb; (try clear hcu); (try clear hc); (try clear hfz); (try clear hsz); (try clear hs0); (try clear hs1); (try clear hs2); (try clear hs3); (try clear hs4); ) | have hcu2 := Cum.mk hb); have hcu := hcu2; clear hcu2; obtain ⟨hc, hfz⟩ := bcell hcu.h; have hsz := hcu.h.size; (try simp at hsz); (try have hs0 := lt_of_succ_le hsz); (try (have hs1 := lt_pred hsz; (try (have hs2 := lt_pred hs1; (try (have hs3 := lt_pred hs2; (try have hs4 := lt_pred hs3)))))))) | (go_at_call 151; refine (HS.out _ bel).mono ?_; rintro e w1 ⟨rfl, hb⟩; (first | (have hcu2 := Cum.join hcu hb; (try clear hcu); (try clear hc); (try clear hfz); (try clear hsz); (try clear hs0); (try clear hs1); (try clear hs2); (try clear hs3); (try clear hs4); ) | have hcu2 := Cum.mk hb); have hcu := hcu2; clear hcu2; obtain ⟨hc, hfz⟩ := bcell hcu.h; have hsz := hcu.h.size; (try simp at hsz); (try have hs0 := lt_of_succ_le hsz); (try (have hs1 := lt_pred hsz; (try (have hs2 := lt_pred hs1; (try (have hs3 := lt_pred hs2; (try have hs4 := lt_pred hs3)))))))) | (go_at_call 152; refine (HN.out _ bel).mono ?_; rintro e w1 ⟨rfl, hb⟩; (first | (have hcu2 := Cum.join hcu hb; (try clear hcu); (try clear hc); (try clear hfz); (try clear hsz); (try clear hs0); (try clear hs1); (try clear hs2); (try clear hs3); (try clear hs4); ) | have hcu2 := Cum.mk hb); have hcu := hcu2; clear hcu2; obtain ⟨hc, hfz⟩ := bcell hcu.h; have hsz := hcu.h.size; (try simp at hsz); (try have hs0 := lt_of_succ_le hsz); (try (have hs1 := lt_pred hsz; (try (have hs2 := lt_pred hs1; (try (have hs3 := lt_pred hs2; (try have hs4 := lt_pred hs3)))))))))
   go_ret
   exact ⟨ret_bool HX.out.symm, bel⟩
  ·have d3 : decide ((y : Int) <= 300) = false := decide_eq_false (by omega)
   have HX := Lib.hid (show okT n d = false by rw [Hf.out, decide_eq_true h8, decide_eq_false h3]; rfl)
   clear h8 h3
   go_enter Tryz.func81, Tryz.ntmps81
   go_wp2_with (first | (go_at_call 150; refine (HD.out _ bel).mono ?_; rintro e w1 ⟨rfl, hb⟩; (first | (have hcu2 := Cum.join hcu hb; (try clear hcu); (try clear hc); (try clear hfz); (try clear hsz); (try clear hs0); (try clear hs1); (try clear hs2); (try clear hs3); (try clear hs4); ) | have hcu2 := Cum.mk hb); have hcu := hcu2; clear hcu2; obtain ⟨hc, hfz⟩ := bcell hcu.h; have hsz := hcu.h.size; (try simp at hsz); (try have hs0 := lt_of_succ_le hsz); (try (have hs1 := lt_pred hsz; (try (have hs2 := lt_pred hs1; (try (have hs3 := lt_pred hs2; (try have hs4 := lt_pred hs3)))))))) | (go_at_call 151; refine (HS.out _ bel).mono ?_; rintro e w1 ⟨rfl, hb⟩; (first | (have hcu2 := Cum.join hcu hb; (try clear hcu); (try clear hc); (try clear hfz); (try clear hsz); (try clear hs0); (try clear hs1); (try clear hs2); (try clear hs3); (try clear hs4); ) | have hcu2 := Cum.mk hb); have hcu := hcu2; clear hcu2; obtain ⟨hc, hfz⟩ := bcell hcu.h; have hsz := hcu.h.size; (try simp at hsz); (try have hs0 := lt_of_succ_le hsz); (try (have hs1 := lt_pred hsz; (try (have hs2 := lt_pred hs1; (try (have hs3 := lt_pred hs2; (try have hs4 := lt_pred hs3)))))))))
   go_ret
   exact ⟨ret_bool HX.out.symm, bel⟩
 ·have d8 : decide ((x : Int) <= 8) = false := decide_eq_false (by omega)
  have HX := Lib.hid (show okT n d = false by rw [Hf.out, decide_eq_false h8]; rfl)
  clear h8
  go_enter Tryz.func81, Tryz.ntmps81
  go_wp2_with (go_at_call 150; refine (HD.out _ bel).mono ?_; rintro e w1 ⟨rfl, hb⟩; (first | (have hcu2 := Cum.join hcu hb; (try clear hcu); (try clear hc); (try clear hfz); (try clear hsz); (try clear hs0); (try clear hs1); (try clear hs2); (try clear hs3); (try clear hs4); ) | have hcu2 := Cum.mk hb); have hcu := hcu2; clear hcu2; obtain ⟨hc, hfz⟩ := bcell hcu.h; have hsz := hcu.h.size; (try simp at hsz); (try have hs0 := lt_of_succ_le hsz); (try (have hs1 := lt_pred hsz; (try (have hs2 := lt_pred hs1; (try (have hs3 := lt_pred hs2; (try have hs4 := lt_pred hs3))))))))
  go_ret
  exact ⟨ret_bool HX.out.symm, bel⟩
theorem c_spec_TreeOk (n : Nat) (d : TreeD) (cs : List Value) (w : World) (lo : Nat) (h : C_Tree n lo w.heap.size w d cs) (hz : sizeT n d <= 1073741824) :
  Calls Tryz.prog 22 #[.agg cs.toArray] w fun e w' => e = .returned (.bool (okT n d)) /\ Below w.heap.size w w' := by
 have Hf := Lib.hid (okT_def n d)
 have HD := Lib.hid (fun (w' : World) (hb : Below w.heap.size w w') => all_DepthS n d cs w' lo (h.now hb) hz)
 have HS := Lib.hid (fun (w' : World) (hb : Below w.heap.size w w') => all_SizeS n d cs w' lo (h.now hb) hz)
 have HN := Lib.hid (fun (w' : World) (hb : Below w.heap.size w w') => all_nodS n d cs w' lo (h.now hb))
 have hds := depth_size n d
 obtain ⟨A4, c4, A5, c5, rfl⟩ := C_Tree.open h
 obtain ⟨x, hx⟩ : ∃ x, x = depthT n d := ⟨_, rfl⟩
 obtain ⟨y, hy⟩ : ∃ y, y = sizeT n d := ⟨_, rfl⟩
 obtain ⟨z, hzz⟩ : ∃ z, z = shapeT n d := ⟨_, rfl⟩
 rw [<- hx, <- hy, <- hzz] at Hf
 rw [<- hx] at HD hds
 rw [<- hy] at HS hz hds
 rw [<- hzz] at HN
 clear h hx hy hzz
 by_cases h8 : x <= 8
 ·have d8 : decide ((x : Int) <= 8) = true := decide_eq_true (by omega)
  by_cases h3 : y <= 300
  ·have d3 : decide ((y : Int) <= 300) = true := decide_eq_true (by omega)
   have HX := Lib.hid (show okT n d = z by rw [Hf.out, decide_eq_true h8, decide_eq_true h3]; rfl)
   clear h8 h3
   go_enter Tryz.func22, Tryz.ntmps22
   go_wp2_with (first | (go_at_call 57; refine (HD.out _ bel).mono ?_; rintro e w1 ⟨rfl, hb⟩; (first | (have hcu2 := Cum.join hcu hb; (try clear hcu); (try clear hc); (try clear hfz); (try clear hsz); (try clear hs0); (try clear hs1); (try clear hs2); (try clear hs3); (try clear hs4); ) | have hcu2 := Cum.mk hb); have hcu := hcu2; clear hcu2; obtain ⟨hc, hfz⟩ := bcell hcu.h; have hsz := hcu.h.size; (try simp at hsz); (try have hs0 := lt_of_succ_le hsz); (try (have hs1 := lt_pred hsz; (try (have hs2 := lt_pred hs1; (try (have hs3 := lt_pred hs2; (try have hs4 := lt_pred hs3)))))))) | (go_at_call 58; refine (HS.out _ bel).mono ?_; rintro e w1 ⟨rfl, hb⟩; (first | (have hcu2 := Cum.join hcu hb; (try clear hcu); (try clear hc); (try clear hfz); (try clear hsz); (try clear hs0); (try clear hs1); (try clear hs2); (try clear hs3); (try clear hs4); ) | have hcu2 := Cum.mk hb); have hcu := hcu2; clear hcu2; obtain ⟨hc, hfz⟩ := bcell hcu.h; have hsz := hcu.h.size; (try simp at hsz); (try have hs0 := lt_of_succ_le hsz); (try (have hs1 := lt_pred hsz; (try (have hs2 := lt_pred hs1; (try (have hs3 := lt_pred hs2; (try have hs4 := lt_pred hs3)))))))) | (go_at_call 59; refine (HN.out _ bel).mono ?_; rintro e w1 ⟨rfl, hb⟩; (first | (have hcu2 := Cum.join hcu hb; (try clear hcu); (try clear hc); (try clear hfz); (try clear hsz); (try clear hs0); (try clear hs1); (try clear hs2); (try clear hs3); (try clear hs4); ) | have hcu2 := Cum.mk hb); have hcu := hcu2; clear hcu2; obtain ⟨hc, hfz⟩ := bcell hcu.h; have hsz := hcu.h.size; (try simp at hsz); (try have hs0 := lt_of_succ_le hsz); (try (have hs1 := lt_pred hsz; (try (have hs2 := lt_pred hs1; (try (have hs3 := lt_pred hs2; (try have hs4 := lt_pred hs3)))))))))
   go_ret
   exact ⟨ret_bool HX.out.symm, bel⟩
  ·have d3 : decide ((y : Int) <= 300) = false := decide_eq_false (by omega)
   have HX := Lib.hid (show okT n d = false by rw [Hf.out, decide_eq_true h8, decide_eq_false h3]; rfl)
   clear h8 h3
   go_enter Tryz.func22, Tryz.ntmps22
   go_wp2_with (first | (go_at_call 57; refine (HD.out _ bel).mono ?_; rintro e w1 ⟨rfl, hb⟩; (first | (have hcu2 := Cum.join hcu hb; (try clear hcu); (try clear hc); (try clear hfz); (try clear hsz); (try clear hs0); (try clear hs1); (try clear hs2); (try clear hs3); (try clear hs4); ) | have hcu2 := Cum.mk hb); have hcu := hcu2; clear hcu2; obtain ⟨hc, hfz⟩ := bcell hcu.h; have hsz := hcu.h.size; (try simp at hsz); (try have hs0 := lt_of_succ_le hsz); (try (have hs1 := lt_pred hsz; (try (have hs2 := lt_pred hs1; (try (have hs3 := lt_pred hs2; (try have hs4 := lt_pred hs3)))))))) | (go_at_call 58; refine (HS.out _ bel).mono ?_; rintro e w1 ⟨rfl, hb⟩; (first | (have hcu2 := Cum.join hcu hb; (try clear hcu); (try clear hc); (try clear hfz); (try clear hsz); (try clear hs0); (try clear hs1); (try clear hs2); (try clear hs3); (try clear hs4); ) | have hcu2 := Cum.mk hb); have hcu := hcu2; clear hcu2; obtain ⟨hc, hfz⟩ := bcell hcu.h; have hsz := hcu.h.size; (try simp at hsz); (try have hs0 := lt_of_succ_le hsz); (try (have hs1 := lt_pred hsz; (try (have hs2 := lt_pred hs1; (try (have hs3 := lt_pred hs2; (try have hs4 := lt_pred hs3)))))))))
   go_ret
   exact ⟨ret_bool HX.out.symm, bel⟩
 ·have d8 : decide ((x : Int) <= 8) = false := decide_eq_false (by omega)
  have HX := Lib.hid (show okT n d = false by rw [Hf.out, decide_eq_false h8]; rfl)
  clear h8
  go_enter Tryz.func22, Tryz.ntmps22
  go_wp2_with (go_at_call 57; refine (HD.out _ bel).mono ?_; rintro e w1 ⟨rfl, hb⟩; (first | (have hcu2 := Cum.join hcu hb; (try clear hcu); (try clear hc); (try clear hfz); (try clear hsz); (try clear hs0); (try clear hs1); (try clear hs2); (try clear hs3); (try clear hs4); ) | have hcu2 := Cum.mk hb); have hcu := hcu2; clear hcu2; obtain ⟨hc, hfz⟩ := bcell hcu.h; have hsz := hcu.h.size; (try simp at hsz); (try have hs0 := lt_of_succ_le hsz); (try (have hs1 := lt_pred hsz; (try (have hs2 := lt_pred hs1; (try (have hs3 := lt_pred hs2; (try have hs4 := lt_pred hs3))))))))
  go_ret
  exact ⟨ret_bool HX.out.symm, bel⟩
open Go.RowKit Go.Lib
def litN : List UInt8 := [110, 117, 108, 108]
def litT : List UInt8 := [116, 114, 117, 101]
def litF : List UInt8 := [102, 97, 108, 115, 101]
def itemsT (pre : Nat -> List UInt8) (f : TreeD -> List UInt8) (l : List TreeD) : Nat -> List UInt8
 | 0 => []
 | k + 1 => itemsT pre f l k ++ (match l[k]? with | none => [] | some t => (if k = 0 then [] else [44]) ++ pre k ++ f t)
def preM (ks : List ByteArray) (i : Nat) : List UInt8 := match ks[i]? with | none => [] | some k => (quoteB k).data.toList ++ [58]
def sayL : Nat -> TreeD -> List UInt8
 | 0, _ => []
 | n + 1, d => if d.kind = 1 then litN else if d.kind = 2 then (if d.flag then litT else litF) else if d.kind = 3 then (decS d.num).data.toList else if d.kind = 4 then (quoteB d.text).data.toList
  else if d.kind = 5 then [91] ++ itemsT (fun _ => []) (sayL n) d.kids d.kids.length ++ [93] else [123] ++ itemsT (preM d.keys) (sayL n) d.kids d.kids.length ++ [125]
theorem sayL_succ (n : Nat) (d : TreeD) : sayL (n + 1) d = if d.kind = 1 then litN else if d.kind = 2 then (if d.flag then litT else litF) else if d.kind = 3 then (decS d.num).data.toList else if d.kind = 4 then (quoteB d.text).data.toList
  else if d.kind = 5 then [91] ++ itemsT (fun _ => []) (sayL n) d.kids d.kids.length ++ [93] else [123] ++ itemsT (preM d.keys) (sayL n) d.kids d.kids.length ++ [125] := rfl
theorem items_next {pre : Nat -> List UInt8} {f : TreeD -> List UInt8} {l : List TreeD} {k : Nat} {t : TreeD} (h : l[k]? = some t) : itemsT pre f l (k + 1) = itemsT pre f l k ++ ((if k = 0 then [] else [44]) ++ pre k ++ f t) := by
 rw [itemsT, h]
theorem quote_len (s : ByteArray) : (quoteB s).data.toList.length <= 6 * s.size + 2 := by
 unfold quoteB
 split
 ·have h : ∀ l : List UInt8, (l.flatMap qB).length <= 6 * l.length := by
   intro l
   induction l with
   | nil => simp
   | cons c l ih =>
    have := qN_len c.toNat
    rw [List.flatMap_cons, List.length_append, List.length_cons]
    have h2 : (qB c).length <= 6 := this
    omega
  have h1 := h s.data.toList
  have e : s.data.toList.length = s.size := Array.length_toList
  show (34 :: s.data.toList.flatMap qB ++ [34]).length <= _
  rw [List.length_append, List.length_cons]
  simp only [List.length_cons, List.length_nil]
  omega
 ·show (0 : Nat) <= _
  omega
theorem shape_parts {n : Nat} {d : TreeD} (h : shapeT (n + 1) d = true) : badH d = false /\ strB d.text = true /\ lensOk d = true /\ (∀ i, i < d.keys.length -> keyOk d.keys i = true) /\ ∀ i, i < d.kids.length -> kidAt (shapeT n) d.kids i = true := by
 rw [shapeT_succ] at h
 simp only [Bool.and_eq_true, Bool.not_eq_true'] at h
 obtain ⟨⟨⟨⟨h1, h2⟩, h3⟩, h4⟩, h5⟩ := h
 have hall : ∀ {m : Nat} {p : Nat -> Bool}, allR m p = true -> ∀ i, i < m -> p i = true := fun {m p} ha i hi => by
  unfold allR at ha
  exact List.all_eq_true.1 ha i (List.mem_range.2 hi)
 exact ⟨h1, h2, h3, hall h4, hall h5⟩
theorem shape_kid {n k : Nat} {d t : TreeD} (h : shapeT (n + 1) d = true) (ht : d.kids[k]? = some t) : shapeT n t = true := by
 have := (shape_parts h).2.2.2.2 k (List.getElem?_eq_some_iff.1 ht).1
 rw [kidAt_eq ht] at this
 exact this
theorem shape_key {n k : Nat} {d : TreeD} {s : ByteArray} (h : shapeT (n + 1) d = true) (hs : d.keys[k]? = some s) : s.size <= 400 := by
 have := (shape_parts h).2.2.2.1 k (List.getElem?_eq_some_iff.1 hs).1
 unfold keyOk at this
 rw [hs] at this
 simp only [Bool.and_eq_true] at this
 have h2 := this.1
 unfold strB at h2
 simp only [Bool.and_eq_true, decide_eq_true_eq] at h2
 exact h2.1
theorem pre_len {n : Nat} {d : TreeD} (h : shapeT (n + 1) d = true) (i : Nat) : (preM d.keys i).length <= 2403 := by
 unfold preM
 rcases hs : d.keys[i]? with _ | s
 ·exact Nat.zero_le _
 ·have h1 := quote_len s
  have h2 := shape_key h hs
  simp only [List.length_append, List.length_cons, List.length_nil]
  omega
theorem items_len {pre : Nat -> List UInt8} {f : TreeD -> List UInt8} {g : TreeD -> Nat} {l : List TreeD} (hp : ∀ i, (pre i).length <= 2403) (hf : ∀ t ∈ l, (f t).length + 2404 <= 5000 * g t) : ∀ k, k <= l.length -> (itemsT pre f l k).length <= 5000 * szL g (l.take k)
 | 0, _ => Nat.zero_le _
 | k + 1, hk => by
  obtain ⟨t, ht⟩ := exists_at (show k < l.length by omega)
  have h1 := items_len hp hf k (by omega)
  have h2 := hf t (List.mem_of_getElem? ht)
  have h3 := hp k
  rw [items_next ht, szL_take_succ g l k t ht]
  have h4 : (if k = 0 then ([] : List UInt8) else [44]).length <= 1 := by split <;> simp
  simp only [List.length_append]
  omega
def numT : Nat -> TreeD -> Prop
 | 0, _ => True
 | n + 1, d => I64 d.num /\ ∀ t ∈ d.kids, numT n t
theorem num_of : ∀ {n lo hi : Nat} {w : World} {d : TreeD} {cs : List Value}, C_Tree n lo hi w d cs -> numT n d
 | 0, _, _, _, _, _, h => h.none.elim
 | n + 1, lo, hi, w, d, cs, h => by
  obtain ⟨v4, v5, -, -, a2, -, -, A, c, -, -, -, hA⟩ := h.out
  refine ⟨a2, fun t ht => ?_⟩
  obtain ⟨i, hi⟩ := List.getElem?_of_mem ht
  obtain ⟨b, o, -, -, -, hc⟩ := hA (Nat.lt_of_le_of_lt (Nat.zero_le i) (List.getElem?_eq_some_iff.1 hi).1)
  obtain ⟨es, -, -, he⟩ := hc i t hi
  exact num_of he
theorem say_len : ∀ (n : Nat) (d : TreeD), shapeT n d = true -> numT n d -> (sayL n d).length + 2404 <= 5000 * sizeT n d
 | 0, _, h, _ => by cases h
 | n + 1, d, h, hn => by
  have hz : 1 <= sizeT (n + 1) d := by rw [sizeT_succ]; omega
  have hkids : ∀ t ∈ d.kids, (sayL n t).length + 2404 <= 5000 * sizeT n t := fun t ht => by
   obtain ⟨i, hi⟩ := List.getElem?_of_mem ht
   exact say_len n t (shape_kid h hi) (hn.2 t ht)
  have hsz : sizeT (n + 1) d = 1 + szL (sizeT n) d.kids := rfl
  have htk : d.kids.take d.kids.length = d.kids := List.take_of_length_le (Nat.le_refl _)
  rw [sayL_succ]
  by_cases c1 : d.kind = 1
  ·rw [if_pos c1]
   have : litN.length = 4 := rfl
   omega
  rw [if_neg c1]
  by_cases c2 : d.kind = 2
  ·rw [if_pos c2]
   have h1 : litT.length = 4 := rfl
   have h2 : litF.length = 5 := rfl
   split <;> omega
  rw [if_neg c2]
  by_cases c3 : d.kind = 3
  ·rw [if_pos c3]
   have h20 := decS_size d.num hn.1
   have he : (decS d.num).data.toList.length = (decS d.num).size := Array.length_toList
   omega
  rw [if_neg c3]
  by_cases c4 : d.kind = 4
  ·rw [if_pos c4]
   have h1 := quote_len d.text
   have h2 := (shape_parts h).2.1
   unfold strB at h2
   simp only [Bool.and_eq_true, decide_eq_true_eq] at h2
   omega
  rw [if_neg c4]
  by_cases c5 : d.kind = 5
  ·rw [if_pos c5]
   have h1 := items_len (pre := fun _ => []) (f := sayL n) (g := sizeT n) (l := d.kids) (fun _ => Nat.zero_le _) hkids d.kids.length (Nat.le_refl _)
   rw [htk] at h1
   simp only [List.length_append, List.length_cons, List.length_nil]
   omega
  ·rw [if_neg c5]
   have h1 := items_len (pre := preM d.keys) (f := sayL n) (g := sizeT n) (l := d.kids) (pre_len h) hkids d.kids.length (Nat.le_refl _)
   rw [htk] at h1
   simp only [List.length_append, List.length_cons, List.length_nil]
   omega
def headOk (l : List UInt8) : Prop := ∀ c, l.head? = some c -> ¬ (48 <= c.toNat /\ c.toNat <= 57) /\ c.toNat ≠ 46 /\ c.toNat ≠ 101 /\ c.toNat ≠ 69
theorem dig_back {s : ByteArray} {rest : List UInt8} (hrest : headOk rest) : ∀ (l : List UInt8) (j : Nat), (∀ c ∈ l, figB c) -> Rd s j (l ++ rest) -> digE s j = j + l.length
 | [], j, _, h => by
  by_cases hj : j < s.size
  ·rw [digE_at hj]
   rcases hr : rest with _ | ⟨c, r⟩
   ·have := h.len (by omega)
    rw [hr] at this
    simp at this
    omega
   ·rw [hr] at h
    have hb := Rd.byte0 (c := c) h
    have hh := hrest c (by rw [hr]; rfl)
    rw [if_neg (by rw [hb.2]; unfold figI; simp only [Bool.and_eq_true, decide_eq_true_eq]; omega)]
    rfl
  ·rw [digE_end hj]; rfl
 | c :: l, j, hf, h => by
  have hb := Rd.byte0 (c := c) h
  have hc := hf c (by simp)
  unfold figB at hc
  have h2 : Rd s (j + 1) (l ++ rest) := Rd.drop (a := [c]) h
  rw [digE_at hb.1, if_pos (by rw [hb.2]; unfold figI; simp only [Bool.and_eq_true, decide_eq_true_eq]; omega), dig_back hrest l (j + 1) (fun x hx => hf x (by simp [hx])) h2, List.length_cons]
  omega
theorem dec_head : ∀ u : Nat, 0 < u -> ∃ c r, decDigits u = c :: r /\ 49 <= c.toNat /\ c.toNat <= 57 := by
 intro u
 induction u using Nat.strongRecOn with
 | ind u ih =>
  intro hu
  rw [decDigits]
  by_cases h : u < 10
  ·rw [dif_pos h]
   exact ⟨_, [], rfl, by rw [ofNat_fig h]; omega, by rw [ofNat_fig h]; omega⟩
  ·rw [dif_neg h]
   obtain ⟨c, r, h1, h2, h3⟩ := ih (u / 10) (by omega) (by omega)
   exact ⟨c, r ++ [UInt8.ofNat (48 + u % 10)], by rw [h1]; rfl, h2, h3⟩
theorem dec_ne (u : Nat) : decDigits u ≠ [] := by
 rcases Nat.eq_zero_or_pos u with rfl | h
 ·rw [decDigits]; simp
 ·obtain ⟨c, r, h1, -⟩ := dec_head u h
  rw [h1]; simp
theorem num_back {s : ByteArray} {a u : Nat} {rest : List UInt8} (hrest : headOk rest) (h : Rd s a (decDigits u ++ rest)) : digE s a = a + (decDigits u).length /\ ¬ (digE s a = a ∨ (byteI s a = 48 /\ a + 1 < digE s a) ∨ (digE s a < s.size /\ (byteI s (digE s a) = 46 ∨ byteI s (digE s a) = 101 ∨ byteI s (digE s a) = 69))) /\ numB s a (digE s a) = u := by
 have h1 := dig_back hrest _ a (dec_figs u) h
 have hne := dec_ne u
 have hl : 0 < (decDigits u).length := List.length_pos_iff.2 hne
 refine ⟨h1, ?_, ?_⟩
 ·rw [h1]
  refine not_or.2 ⟨by omega, not_or.2 ⟨?_, ?_⟩⟩
  ·intro ⟨e1, e2⟩
   rcases Nat.eq_zero_or_pos u with rfl | hu
   ·have : (decDigits 0).length = 1 := by rw [decDigits]; rfl
    omega
   ·obtain ⟨c, r, g1, g2, g3⟩ := dec_head u hu
    rw [g1] at h
    have hb := Rd.byte0 (c := c) h
    rw [hb.2] at e1
    omega
  ·intro ⟨e1, e2⟩
   have h2 := h.drop
   rcases hr : rest with _ | ⟨c, r⟩
   ·rw [hr] at h2
    have := h2.len (by omega)
    simp at this
    omega
   ·rw [hr] at h2
    have hb := Rd.byte0 (c := c) h2
    have hh := hrest c (by rw [hr]; rfl)
    rw [hb.2] at e2
    omega
 ·unfold numB
  rw [h1, extract_list, show s.data.toList.drop a = decDigits u ++ rest from h, List.take_left, dec_val]
theorem whole_back {s : ByteArray} {j : Nat} {n : Int} {rest : List UInt8} (hn : -9223372036854775808 <= n /\ n <= 9223372036854775807) (hrest : headOk rest) (h : Rd s j ((decS n).data.toList ++ rest)) : j < s.size /\ markI (byteI s j) = 0 /\ byteI s j ≠ 34 /\ (byteI s j = 45 ∨ figI (byteI s j) = true) /\ wholeB s j = (n, ((j + (decS n).data.toList.length : Nat) : Int)) := by
 have hd : (decS n).data.toList = itoa n := by unfold decS; simp
 rw [hd] at h ⊢
 unfold itoa at h ⊢
 by_cases hneg : n < 0
 ·rw [if_pos hneg] at h ⊢
  have hb := Rd.byte0 (c := 45) h
  have e45 : byteI s j = 45 := hb.2
  have h2 : Rd s (j + 1) (decDigits n.natAbs ++ rest) := Rd.drop (a := [45]) h
  obtain ⟨g1, g2, g3⟩ := num_back hrest h2
  refine ⟨hb.1, by rw [e45]; decide, by rw [e45]; decide, .inl e45, ?_⟩
  unfold wholeB
  rw [if_pos hb.1, if_pos e45]
  unfold wholeA
  rw [if_neg g2, if_pos rfl, g3, if_pos (by omega), g1, List.length_cons]
  simp only [Prod.mk.injEq]
  omega
 ·rw [if_neg hneg] at h ⊢
  obtain ⟨g1, g2, g3⟩ := num_back hrest h
  have hb : ∃ c r, decDigits n.toNat = c :: r := by
   rcases hq : decDigits n.toNat with _ | ⟨c, r⟩
   ·exact absurd hq (dec_ne _)
   ·exact ⟨c, r, rfl⟩
  obtain ⟨c, r, hcr⟩ := hb
  have hfc := dec_figs n.toNat c (by rw [hcr]; simp)
  unfold figB at hfc
  have hb : j < s.size /\ byteI s j = (c.toNat : Int) := by
   rw [hcr] at h
   exact Rd.byte0 (c := c) h
  have hm : markI (byteI s j) = 0 := by
   rw [hb.2]
   unfold markI
   rw [if_neg (by omega), if_neg (by omega), if_neg (by omega), if_neg (by omega), if_neg (by omega), if_neg (by omega)]
  refine ⟨hb.1, hm, by rw [hb.2]; omega, .inr (by rw [hb.2]; unfold figI; simp only [Bool.and_eq_true, decide_eq_true_eq]; omega), ?_⟩
  unfold wholeB
  rw [if_pos hb.1, if_neg (by rw [hb.2]; omega)]
  unfold wholeA
  rw [if_neg g2, if_neg (by decide), g3, if_pos (by omega), g1]
  exact Prod.ext (by show ((n.toNat : Nat) : Int) = n; omega) rfl
theorem word_back {s : ByteArray} {j : Nat} {wl rest : List UInt8} (h : Rd s j (wl ++ rest)) : wordB s j wl = true := by
 unfold wordB
 rw [show s.data.toList.drop j = wl ++ rest from h, List.take_left, decide_eq_true_eq]
abbrev Tk := Int × ByteArray × Int
def skT (x : SignD) : Tk := (x.kind, x.text, x.num)
def LexR (ok : List UInt8 -> Prop) (a : List UInt8) (T : List Tk) : Prop := ∀ (s : ByteArray) (j : Nat) (acc : List SignD) (rest : List UInt8), Rd s j (a ++ rest) -> ok rest -> ∃ L, L.map skT = T /\ signsG s j acc = signsG s (j + a.length) (acc ++ L)
def anyR (_ : List UInt8) : Prop := True
theorem LexR.weak {ok : List UInt8 -> Prop} {a : List UInt8} {T : List Tk} (h : LexR anyR a T) : LexR ok a T := fun s j acc rest hr _ => h s j acc rest hr trivial
theorem LexR.nil {ok : List UInt8 -> Prop} : LexR ok [] [] := fun s j acc rest _ _ => ⟨[], rfl, by rw [List.append_nil]; rfl⟩
theorem LexR.app {ok ok2 : List UInt8 -> Prop} {a b : List UInt8} {T U : List Tk} (h : LexR ok a T) (k : LexR ok2 b U) (hok : ∀ rest, ok2 rest -> ok (b ++ rest)) : LexR ok2 (a ++ b) (T ++ U) := by
 intro s j acc rest hr ho
 rw [List.append_assoc] at hr
 obtain ⟨L, e1, e2⟩ := h s j acc (b ++ rest) hr (hok rest ho)
 obtain ⟨M, f1, f2⟩ := k s (j + a.length) (acc ++ L) rest hr.drop ho
 refine ⟨L ++ M, by rw [List.map_append, e1, f1], ?_⟩
 rw [e2, f2, List.append_assoc, List.length_append, Nat.add_assoc]
theorem LexR.sign {ok : List UInt8 -> Prop} {a : List UInt8} {t : Tk} (h : ∀ (s : ByteArray) (j : Nat) (rest : List UInt8), Rd s j (a ++ rest) -> ok rest -> j < s.size /\ blankI (byteI s j) = false /\ ∃ x, skT x = t /\ signB s j = (x, ((j + a.length : Nat) : Int))) : LexR ok a [t] := by
 intro s j acc rest hr ho
 obtain ⟨h1, h2, x, h3, h4⟩ := h s j rest hr ho
 refine ⟨[x], by rw [List.map_cons, List.map_nil, h3], ?_⟩
 rw [signsG_sign h1 (by rw [h2]; decide) (by rw [h4]; simp only; omega), h4]
 simp only [Int.toNat_natCast]
theorem LexR.mark {c : UInt8} {k : Int} (hk : markI (c.toNat : Int) = k) (h0 : k ≠ 0) : LexR anyR [c] [(k, ⟨#[]⟩, 0)] := by
 refine LexR.sign (fun s j rest hr _ => ?_)
 have hb := Rd.byte0 (c := c) hr
 have hm : markI (byteI s j) = k := by rw [hb.2, hk]
 refine ⟨hb.1, ?_, _, ?_, sign_mark hb.1 (by rw [hm]; exact h0)⟩
 ·rw [hb.2]
  unfold blankI
  rw [decide_eq_false_iff_not]
  intro h
  apply h0
  rw [<- hk]
  unfold markI
  rw [if_neg (by omega), if_neg (by omega), if_neg (by omega), if_neg (by omega), if_neg (by omega), if_neg (by omega)]
 ·unfold skT
  simp only
  rw [hm]
theorem LexR.quote {x : ByteArray} (hx : utf8B x = true) : LexR anyR (quoteB x).data.toList [(7, x, 0)] := by
 refine LexR.sign (fun s j rest hr _ => ?_)
 obtain ⟨h1, h2, h3⟩ := quotB_back hx hr
 refine ⟨h2, by rw [h1]; decide, ⟨7, x, 0, j⟩, rfl, ?_⟩
 rw [sign_quot h2 h1, h3, if_neg (by simp only; omega)]
theorem LexR.num {n : Int} (hn : -9223372036854775808 <= n /\ n <= 9223372036854775807) : LexR headOk (decS n).data.toList [(8, ⟨#[]⟩, n)] := by
 refine LexR.sign (fun s j rest hr ho => ?_)
 obtain ⟨h1, h2, h3, h4, h5⟩ := whole_back hn ho hr
 refine ⟨h1, ?_, ⟨8, ⟨#[]⟩, n, j⟩, rfl, ?_⟩
 ·unfold blankI
  rw [decide_eq_false_iff_not]
  intro h
  rcases h4 with h4 | h4
  ·omega
  ·unfold figI at h4
   simp only [Bool.and_eq_true, decide_eq_true_eq] at h4
   omega
 ·rw [sign_num h1 h2 h3 h4, h5, if_neg (by simp only; omega)]
theorem LexR.litN : LexR anyR litN [(11, ⟨#[]⟩, 0)] := by
 refine LexR.sign (fun s j rest hr _ => ?_)
 have hb := Rd.byte0 (c := 110) hr
 have e : byteI s j = 110 := hb.2
 refine ⟨hb.1, by rw [e]; decide, ⟨11, ⟨#[]⟩, 0, j⟩, rfl, ?_⟩
 have h1 : wordB s j wT = false := by
  rcases h : wordB s j wT with _ | _
  ·rfl
  ·have := (word_first h).2; rw [e] at this; exact absurd this (by decide)
 have h2 : wordB s j wF = false := by
  rcases h : wordB s j wF with _ | _
  ·rfl
  ·have := (word_first h).2; rw [e] at this; exact absurd this (by decide)
 have h3 : wordB s j wN = true := word_back hr
 rw [sign_word hb.1 (by rw [e]; decide) (by rw [e]; decide) (by rw [e]; decide), h1, h2, h3]
 rfl
theorem LexR.litT : LexR anyR litT [(9, ⟨#[]⟩, 0)] := by
 refine LexR.sign (fun s j rest hr _ => ?_)
 have hb := Rd.byte0 (c := 116) hr
 have e : byteI s j = 116 := hb.2
 refine ⟨hb.1, by rw [e]; decide, ⟨9, ⟨#[]⟩, 0, j⟩, rfl, ?_⟩
 have h3 : wordB s j wT = true := word_back hr
 rw [sign_word hb.1 (by rw [e]; decide) (by rw [e]; decide) (by rw [e]; decide), h3]
 rfl
theorem LexR.litF : LexR anyR litF [(10, ⟨#[]⟩, 0)] := by
 refine LexR.sign (fun s j rest hr _ => ?_)
 have hb := Rd.byte0 (c := 102) hr
 have e : byteI s j = 102 := hb.2
 refine ⟨hb.1, by rw [e]; decide, ⟨10, ⟨#[]⟩, 0, j⟩, rfl, ?_⟩
 have h1 : wordB s j wT = false := by
  rcases h : wordB s j wT with _ | _
  ·rfl
  ·have := (word_first h).2; rw [e] at this; exact absurd this (by decide)
 have h3 : wordB s j wF = true := word_back hr
 rw [sign_word hb.1 (by rw [e]; decide) (by rw [e]; decide) (by rw [e]; decide), h1, h3]
 rfl
def costX (x : SignD) : Nat := if x.kind = 7 then (quoteB x.text).data.toList.length else if x.kind = 8 then (decS x.num).data.toList.length else if x.kind = 10 then 5 else if x.kind = 9 ∨ x.kind = 11 then 4 else 1
def goodX (x : SignD) : Prop := (x.kind = 7 -> utf8B x.text = true) /\ I64 x.num /\ x.kind <= 11
theorem whole_cost {s : ByteArray} {j : Nat} (h : ¬ (wholeB s j).2 < 0) : ((j + (decS (wholeB s j).1).data.toList.length : Nat) : Int) <= (wholeB s j).2 := by
 have key : ∀ (neg : Bool) (a : Nat), ¬ (wholeA s neg a).2 < 0 -> a <= s.size -> ((a + (decS (wholeA s neg a).1).data.toList.length : Nat) : Int) <= (wholeA s neg a).2 + (if neg = true then 1 else 0) := by
  intro neg a h ha
  have hd : ∀ n : Int, (decS n).data.toList = itoa n := fun n => by unfold decS; simp
  rw [hd]
  unfold wholeA at h ⊢
  by_cases c0 : digE s a = a ∨ (byteI s a = 48 /\ a + 1 < digE s a) ∨ (digE s a < s.size /\ (byteI s (digE s a) = 46 ∨ byteI s (digE s a) = 101 ∨ byteI s (digE s a) = 69))
  case pos => rw [if_pos c0] at h; exact absurd (show (-1 : Int) < 0 by decide) h
  rw [if_neg c0] at h ⊢
  have c1 := not_or.1 c0
  have c2 := not_or.1 c1.2
  have hle := digE_le s a
  have hes := hle.2 ha
  have hf := figs_all (s := s) (a := a) (e := digE s a) hes (fun t h1 h2 => (digE_figs h1 h2).1)
  have hl := extract_len s a (digE s a) hes
  obtain ⟨l, hll⟩ : ∃ l, l = (s.extract a (digE s a)).data.toList := ⟨_, rfl⟩
  have hnum : numB s a (digE s a) = valL 0 l := by rw [hll]; rfl
  have hne : l ≠ [] := by intro e; rw [<- hll, e] at hl; simp at hl; omega
  have hcan : decDigits (valL 0 l) = l := by
   refine dec_canon _ l rfl hne (by rw [hll]; exact hf) (fun c r e hr => ?_)
   have hdrop : (s.data.toList.drop a).take (digE s a - a) = l := by
    rw [hll, <- extract_list]
    congr 3
    omega
   have hrd : Rd s a (c :: (r ++ (s.data.toList.drop a).drop (digE s a - a))) := by
    unfold Rd
    rw [<- List.cons_append, <- e, <- hdrop, List.take_append_drop]
   have hb := hrd.byte0.2
   have hlen : l.length = digE s a - a := by rw [hll]; exact hl
   rw [e] at hlen
   have hr0 : 0 < r.length := List.length_pos_iff.2 hr
   rw [List.length_cons] at hlen
   intro h48
   exact c2.1 ⟨by rw [hb, h48]; rfl, by omega⟩
  have hlen : l.length = digE s a - a := by rw [hll]; exact hl
  rw [hnum] at h ⊢
  cases neg with
  | true =>
   rw [if_pos rfl] at h ⊢
   by_cases c3 : valL 0 l <= 9223372036854775808
   ·rw [if_pos c3, if_pos rfl]
    simp only
    unfold itoa
    by_cases c4 : -((valL 0 l : Nat) : Int) < 0
    ·rw [if_pos c4, show (-((valL 0 l : Nat) : Int)).natAbs = valL 0 l by omega, hcan, List.length_cons]
     omega
    ·rw [if_neg c4, show (-((valL 0 l : Nat) : Int)).toNat = valL 0 l by omega, hcan]
     omega
   ·rw [if_neg c3] at h
    exact absurd (show (-1 : Int) < 0 by decide) h
  | false =>
   rw [if_neg (by decide)] at h ⊢
   by_cases c3 : valL 0 l <= 9223372036854775807
   ·rw [if_pos c3, if_neg (by decide)]
    simp only
    unfold itoa
    rw [if_neg (by omega), show (((valL 0 l : Nat) : Int)).toNat = valL 0 l by omega, hcan]
    omega
   ·rw [if_neg c3] at h
    exact absurd (show (-1 : Int) < 0 by decide) h
 unfold wholeB at h ⊢
 by_cases hj : j < s.size
 ·rw [if_pos hj] at h ⊢
  by_cases c1 : byteI s j = 45
  ·rw [if_pos c1] at h ⊢
   have := key true (j + 1) h (by omega)
   rw [if_pos rfl] at this
   omega
  ·rw [if_neg c1] at h ⊢
   have := key false j h (by omega)
   rw [if_neg (by decide)] at this
   omega
 ·rw [if_neg hj] at h
  exact absurd (show (-1 : Int) < 0 by decide) h
theorem i64_zero : I64 0 := by unfold I64; omega
theorem sign_cost {s : ByteArray} {j : Nat} (h : ¬ (signB s j).2 < 0) : goodX (signB s j).1 /\ ((j + costX (signB s j).1 : Nat) : Int) <= (signB s j).2 := by
 unfold signB at h ⊢
 by_cases hj : j < s.size
 case neg => rw [if_neg hj] at h; exact absurd (show (-1 : Int) < 0 by decide) h
 rw [if_pos hj] at h ⊢
 by_cases c1 : markI (byteI s j) ≠ 0
 ·rw [if_pos c1]
  have hm : markI (byteI s j) = 1 ∨ markI (byteI s j) = 2 ∨ markI (byteI s j) = 3 ∨ markI (byteI s j) = 4 ∨ markI (byteI s j) = 5 ∨ markI (byteI s j) = 6 := by
   revert c1
   unfold markI
   repeat' split
   all_goals intro c1
   all_goals omega
  refine ⟨⟨fun e => ?_, i64_zero, by simp only; omega⟩, ?_⟩
  ·have e2 : markI (byteI s j) = 7 := e
   omega
  ·unfold costX
   simp only
   rw [if_neg (by omega), if_neg (by omega), if_neg (by omega), if_neg (by omega)]
   omega
 rw [if_neg c1] at h ⊢
 by_cases c2 : byteI s j = 34
 ·rw [if_pos c2] at h ⊢
  by_cases c3 : (quotB s j).2 < 0
  ·rw [if_pos c3] at h; exact absurd (show (-1 : Int) < 0 by decide) h
  rw [if_neg c3]
  obtain ⟨h1, h2⟩ := quotB_cost c3
  exact ⟨⟨fun _ => h1, i64_zero, by simp⟩, h2⟩
 rw [if_neg c2] at h ⊢
 by_cases c3 : byteI s j = 45 ∨ figI (byteI s j) = true
 ·rw [if_pos c3] at h ⊢
  by_cases c4 : (wholeB s j).2 < 0
  ·rw [if_pos c4] at h; exact absurd (show (-1 : Int) < 0 by decide) h
  rw [if_neg c4]
  have hn := (wholeB_next s j).2
  exact ⟨⟨fun e => absurd (show (8 : Int) = 7 from e) (by decide), hn, by simp⟩, whole_cost c4⟩
 rw [if_neg c3] at h ⊢
 by_cases c4 : wordB s j wT = true
 ·rw [if_pos c4]
  exact ⟨⟨fun e => absurd (show (9 : Int) = 7 from e) (by decide), i64_zero, by simp⟩, by unfold costX; simp⟩
 rw [if_neg c4] at h ⊢
 by_cases c5 : wordB s j wF = true
 ·rw [if_pos c5]
  exact ⟨⟨fun e => absurd (show (10 : Int) = 7 from e) (by decide), i64_zero, by simp⟩, by unfold costX; simp⟩
 rw [if_neg c5] at h ⊢
 by_cases c6 : wordB s j wN = true
 ·rw [if_pos c6]
  exact ⟨⟨fun e => absurd (show (11 : Int) = 7 from e) (by decide), i64_zero, by simp⟩, by unfold costX; simp⟩
 rw [if_neg c6] at h
 exact absurd (show (-1 : Int) < 0 by decide) h
theorem signs_cost (s : ByteArray) : ∀ (f j : Nat) (acc : List SignD), s.size - j <= f -> j <= s.size -> (signsG s j acc).2.code = 0 -> ∃ M, (signsG s j acc).1 = acc ++ M /\ (∀ x ∈ M, goodX x) /\ szL costX M <= s.size - j := by
 intro f
 induction f with
 | zero =>
  intro j acc hf hj _
  rw [signsG_end (by omega)]
  exact ⟨[], by rw [List.append_nil], fun x hx => (by cases hx), Nat.zero_le _⟩
 | succ f ih =>
  intro j acc hf hj h
  by_cases hlt : j < s.size
  ·by_cases c1 : blankI (byteI s j) = true
   ·rw [signsG_blank hlt c1] at h ⊢
    obtain ⟨M, h1, h2, h3⟩ := ih (j + 1) acc (by omega) (by omega) h
    exact ⟨M, h1, h2, by omega⟩
   ·by_cases c2 : (signB s j).2 < 0
    ·rw [signsG_bad hlt c1 c2] at h
     exact absurd h (show ¬ ((3 : Int) = 0) by decide)
    ·rw [signsG_sign hlt c1 c2] at h ⊢
     have hnx := signB_next s j
     obtain ⟨g1, g2⟩ := sign_cost c2
     obtain ⟨M, h1, h2, h3⟩ := ih _ _ (by omega) (by omega) h
     refine ⟨(signB s j).1 :: M, by rw [h1, List.append_assoc]; rfl, fun x hx => ?_, ?_⟩
     ·rcases List.mem_cons.1 hx with rfl | hx
      ·exact g1
      ·exact h2 x hx
     ·simp only [szL]
      omega
  ·rw [signsG_end hlt]
   exact ⟨[], by rw [List.append_nil], fun x hx => (by cases hx), Nat.zero_le _⟩
theorem signsF_cost {s : ByteArray} (h : (signsF s).2.code = 0) : (∀ x ∈ (signsF s).1, goodX x) /\ szL costX (signsF s).1 <= s.size /\ s.size <= 20000 := by
 unfold signsF at h ⊢
 by_cases c : (textF s).code = 0
 ·rw [if_pos c] at h ⊢
  obtain ⟨M, h1, h2, h3⟩ := signs_cost s _ 0 [] (Nat.le_refl _) (Nat.zero_le _) h
  rw [h1, List.nil_append]
  refine ⟨h2, by omega, ?_⟩
  unfold textF at c
  by_cases c2 : 20000 < s.size
  ·rw [if_pos c2] at c; exact absurd c (show ¬ ((1 : Int) = 0) by decide)
  ·omega
 ·rw [if_neg c] at h
  exact absurd h c
def VU (a : List UInt8) : Prop := ∀ (s : ByteArray) (j : Nat) (rest : List UInt8), Rd s j (a ++ rest) -> badAt s j = badAt s (j + a.length)
theorem VU.nil : VU [] := fun _ _ _ _ => rfl
theorem VU.app {a b : List UInt8} (h : VU a) (k : VU b) : VU (a ++ b) := by
 intro s j rest hr
 rw [List.append_assoc] at hr
 rw [h s j _ hr, k s _ _ hr.drop, List.length_append, Nat.add_assoc]
theorem VU.low : ∀ {a : List UInt8}, (∀ c ∈ a, c.toNat < 128) -> VU a
 | [], _ => VU.nil
 | c :: a, h => by
  refine VU.app (a := [c]) ?_ (VU.low (fun x hx => h x (by simp [hx])))
  intro s j rest hr
  have hb := Rd.byte0 (c := c) hr
  have hc := h c (by simp)
  have h1 := decodeL_drop s j hb.1
  rw [show s.data.toList.drop j = c :: rest from hr, decode_one (by simpa using hc)] at h1
  rw [badAt_step hb.1 (by rw [<- h1]; intro e; have := congrArg Prod.fst e; simp at this; omega), <- h1]
  rfl
theorem qB_low {c : UInt8} (h : c.toNat < 128) : ∀ x ∈ qB c, x.toNat < 128 := by
 have hf : ∀ y : Fin 16, (figU y.val).toNat < 128 := by decide
 intro x hx
 unfold qB qN at hx
 by_cases c1 : c.toNat = 34 ∨ c.toNat = 92
 ·rw [if_pos c1] at hx
  simp at hx
  rcases hx with rfl | rfl
  ·decide
  ·exact h
 rw [if_neg c1] at hx
 by_cases c2 : c.toNat = 8
 ·rw [if_pos c2] at hx; simp at hx; rcases hx with rfl | rfl <;> decide
 rw [if_neg c2] at hx
 by_cases c3 : c.toNat = 12
 ·rw [if_pos c3] at hx; simp at hx; rcases hx with rfl | rfl <;> decide
 rw [if_neg c3] at hx
 by_cases c4 : c.toNat = 10
 ·rw [if_pos c4] at hx; simp at hx; rcases hx with rfl | rfl <;> decide
 rw [if_neg c4] at hx
 by_cases c5 : c.toNat = 13
 ·rw [if_pos c5] at hx; simp at hx; rcases hx with rfl | rfl <;> decide
 rw [if_neg c5] at hx
 by_cases c6 : c.toNat = 9
 ·rw [if_pos c6] at hx; simp at hx; rcases hx with rfl | rfl <;> decide
 rw [if_neg c6] at hx
 by_cases c7 : c.toNat < 32
 ·rw [if_pos c7] at hx
  simp only [List.mem_cons, List.mem_nil_iff, or_false] at hx
  rcases hx with rfl | rfl | rfl | rfl | rfl | rfl
  ·decide
  ·decide
  ·decide
  ·decide
  ·exact hf ⟨c.toNat / 16, by omega⟩
  ·exact hf ⟨c.toNat % 16, by omega⟩
 ·rw [if_neg c7] at hx
  simp at hx
  rw [hx]
  exact h
theorem VU.rune {l : List UInt8} (hv : decodeL l ≠ (65533, 1)) (hk : 1 <= (decodeL l).2) (hl : (decodeL l).2 <= l.length) : VU (l.take (decodeL l).2) := by
 intro s j rest hr
 have hlen : (l.take (decodeL l).2).length = (decodeL l).2 := by rw [List.length_take]; omega
 have hj : j < s.size := by
  rcases hq : l.take (decodeL l).2 with _ | ⟨z, zs⟩
  ·rw [hq] at hlen; simp at hlen; omega
  ·rw [hq] at hr
   exact (Rd.byte0 (c := z) hr).1
 have h1 := decodeL_drop s j hj
 rw [show s.data.toList.drop j = l.take (decodeL l).2 ++ rest from hr, decode_local (l := l) hv (by rw [List.take_append_of_le_length (by omega), List.take_take, Nat.min_self]) (by rw [List.length_append]; omega)] at h1
 rw [badAt_step hj (by rw [<- h1]; exact hv), <- h1, hlen]
theorem VU.flat (x : ByteArray) : ∀ (f i : Nat) (rs : List Nat), x.size - i <= f -> runesAt x i = some rs -> VU ((x.data.toList.drop i).flatMap qB) := by
 intro f
 induction f with
 | zero =>
  intro i rs hf h
  rw [List.drop_of_length_le (by rw [Array.length_toList]; exact (show x.size <= i by omega))]
  exact VU.nil
 | succ f ih =>
  intro i rs hf h
  by_cases hi : i < x.size
  ·by_cases hd : Utf8.decode x i = (65533, 1)
   ·rw [runesAt_bad hi hd] at h; cases h
   ·rw [runesAt_step hi hd] at h
    have hdl := decodeL_drop x i hi
    have hl : x.data.toList.length = x.size := Array.length_toList
    have hne : x.data.toList.drop i ≠ [] := fun e => by
     have := congrArg List.length e
     rw [List.length_drop, hl] at this
     simp at this
     omega
    have hfit := decode_fits x i hi
    rcases hr2 : runesAt x (i + (Utf8.decode x i).2) with _ | rs'
    ·rw [hr2] at h; cases h
    ·have hs : x.data.toList.drop i = (x.data.toList.drop i).take (Utf8.decode x i).2 ++ x.data.toList.drop (i + (Utf8.decode x i).2) := by
      rw [<- List.drop_drop, List.take_append_drop]
     have hdv : decodeL (x.data.toList.drop i) ≠ (65533, 1) := by rw [hdl]; exact hd
     have ih' := ih (i + (Utf8.decode x i).2) rs' (by omega) hr2
     have hway := decode_way _ hne hdv
     have hru := VU.rune hdv (by rw [hdl]; exact hfit.2.1) (by rw [hdl, List.length_drop, hl]; omega)
     rw [hdl] at hway hru
     rw [hs, List.flatMap_append]
     refine VU.app ?_ ih'
     rcases hway with ⟨y, h1, h2, h3⟩ | ⟨h1, h2, h3⟩
     ·rw [h3]
      have hq1 : [y].flatMap qB = qB y := by simp
      rw [hq1]
      exact VU.low (qB_low h2)
     ·rw [flat_high h3]
      exact hru
  ·rw [List.drop_of_length_le (by rw [Array.length_toList]; exact (show x.size <= i by omega))]
   exact VU.nil
theorem VU.quote {x : ByteArray} (hx : utf8B x = true) : VU (quoteB x).data.toList := by
 obtain ⟨rs, hrs⟩ := Option.isSome_iff_exists.1 (show (runesAt x 0).isSome = true from hx)
 have h := VU.flat x _ 0 rs (Nat.le_refl _) hrs
 rw [List.drop_zero] at h
 have hq : (quoteB x).data.toList = [34] ++ (x.data.toList.flatMap qB ++ [34]) := by unfold quoteB; rw [if_pos hx]; rfl
 rw [hq]
 exact VU.app (VU.low (by simp)) (VU.app h (VU.low (by simp)))
theorem VU.dec (n : Int) : VU (decS n).data.toList := by
 have hd : (decS n).data.toList = itoa n := by unfold decS; simp
 rw [hd]
 have hf : ∀ u, ∀ c ∈ decDigits u, c.toNat < 128 := fun u c hc => by
  have := dec_figs u c hc
  unfold figB at this
  omega
 unfold itoa
 split
 ·refine VU.low (fun c hc => ?_)
  rcases List.mem_cons.1 hc with rfl | hc
  ·decide
  ·exact hf _ c hc
 ·exact VU.low (hf _)
def Both (ok : List UInt8 -> Prop) (a : List UInt8) (T : List Tk) : Prop := LexR ok a T /\ VU a
theorem Both.app {ok ok2 : List UInt8 -> Prop} {a b : List UInt8} {T U : List Tk} (h : Both ok a T) (k : Both ok2 b U) (hok : ∀ rest, ok2 rest -> ok (b ++ rest)) : Both ok2 (a ++ b) (T ++ U) := ⟨h.1.app k.1 hok, h.2.app k.2⟩
theorem Both.any {ok : List UInt8 -> Prop} {a b : List UInt8} {T U : List Tk} (h : Both anyR a T) (k : Both ok b U) : Both ok (a ++ b) (T ++ U) := h.app k (fun _ _ => trivial)
theorem Both.weak {ok : List UInt8 -> Prop} {a : List UInt8} {T : List Tk} (h : Both anyR a T) : Both ok a T := ⟨h.1.weak, h.2⟩
theorem Both.nil {ok : List UInt8 -> Prop} : Both ok [] [] := ⟨LexR.nil, VU.nil⟩
theorem Both.mark {c : UInt8} {k : Int} (hk : markI (c.toNat : Int) = k) (h0 : k ≠ 0) (hc : c.toNat < 128) : Both anyR [c] [(k, ⟨#[]⟩, 0)] := ⟨LexR.mark hk h0, VU.low (by intro x hx; simp at hx; rw [hx]; exact hc)⟩
def mk (k : Int) : Tk := (k, ⟨#[]⟩, 0)
def pieceP {α : Type} (com : List α) (pre : Nat -> List α) (f : TreeD -> List α) (l : List TreeD) (k : Nat) : List α := match l[k]? with | none => [] | some t => (if k = 0 then [] else com) ++ pre k ++ f t
theorem piece_some {α : Type} {com : List α} {pre : Nat -> List α} {f : TreeD -> List α} {l : List TreeD} {k : Nat} {t : TreeD} (h : l[k]? = some t) : pieceP com pre f l k = (if k = 0 then [] else com) ++ pre k ++ f t := by unfold pieceP; rw [h]
theorem piece_none {α : Type} {com : List α} {pre : Nat -> List α} {f : TreeD -> List α} {l : List TreeD} {k : Nat} (h : l[k]? = none) : pieceP com pre f l k = [] := by unfold pieceP; rw [h]
def seqP {α : Type} (p : Nat -> List α) : Nat -> Nat -> List α
 | _, 0 => []
 | k, n + 1 => p k ++ seqP p (k + 1) n
theorem seqP_succ {α : Type} (p : Nat -> List α) (k n : Nat) : seqP p k (n + 1) = p k ++ seqP p (k + 1) n := rfl
theorem seqP_last {α : Type} (p : Nat -> List α) : ∀ (n k : Nat), seqP p k (n + 1) = seqP p k n ++ p (k + n)
 | 0, k => by simp [seqP]
 | n + 1, k => by
  rw [seqP_succ, seqP_last p n (k + 1), seqP_succ p k n, List.append_assoc]
  congr 3
  omega
theorem items_seq (pre : Nat -> List UInt8) (f : TreeD -> List UInt8) (l : List TreeD) : ∀ n, itemsT pre f l n = seqP (pieceP [44] pre f l) 0 n
 | 0 => rfl
 | n + 1 => by
  rw [seqP_last, <- items_seq pre f l n, Nat.zero_add]
  rfl
def tkPre (ks : List ByteArray) (i : Nat) : List Tk := match ks[i]? with | none => [] | some k => [(7, k, 0), mk 5]
def tkL : Nat -> TreeD -> List Tk
 | 0, _ => []
 | n + 1, d => if d.kind = 1 then [mk 11] else if d.kind = 2 then (if d.flag then [mk 9] else [mk 10]) else if d.kind = 3 then [(8, ⟨#[]⟩, d.num)] else if d.kind = 4 then [(7, d.text, 0)]
  else if d.kind = 5 then [mk 3] ++ seqP (pieceP [mk 6] (fun _ => []) (tkL n) d.kids) 0 d.kids.length ++ [mk 4] else [mk 1] ++ seqP (pieceP [mk 6] (tkPre d.keys) (tkL n) d.kids) 0 d.kids.length ++ [mk 2]
theorem tkL_succ (n : Nat) (d : TreeD) : tkL (n + 1) d = if d.kind = 1 then [mk 11] else if d.kind = 2 then (if d.flag then [mk 9] else [mk 10]) else if d.kind = 3 then [(8, ⟨#[]⟩, d.num)] else if d.kind = 4 then [(7, d.text, 0)]
  else if d.kind = 5 then [mk 3] ++ seqP (pieceP [mk 6] (fun _ => []) (tkL n) d.kids) 0 d.kids.length ++ [mk 4] else [mk 1] ++ seqP (pieceP [mk 6] (tkPre d.keys) (tkL n) d.kids) 0 d.kids.length ++ [mk 2] := rfl
theorem head_safe {c : UInt8} {l : List UInt8} (h : ¬ (48 <= c.toNat /\ c.toNat <= 57) /\ c.toNat ≠ 46 /\ c.toNat ≠ 101 /\ c.toNat ≠ 69) : headOk (c :: l) := fun x hx => by
 obtain rfl : c = x := by simpa using hx
 exact h
theorem both_seq {pre : Nat -> List UInt8} {tpre : Nat -> List Tk} {f : TreeD -> List UInt8} {g : TreeD -> List Tk} {l : List TreeD} (hp : ∀ i t, l[i]? = some t -> Both anyR (pre i) (tpre i)) (hf : ∀ t ∈ l, Both headOk (f t) (g t)) :
  ∀ n k, Both headOk (seqP (pieceP [44] pre f l) k n) (seqP (pieceP [mk 6] tpre g l) k n) /\ (1 <= k -> ∀ rest, headOk rest -> headOk (seqP (pieceP [44] pre f l) k n ++ rest))
 | 0, k => ⟨Both.nil, fun _ _ h => h⟩
 | n + 1, k => by
  obtain ⟨ih1, ih2⟩ := both_seq hp hf n (k + 1)
  rw [seqP_succ, seqP_succ]
  rcases hk : l[k]? with _ | t
  ·rw [piece_none hk, piece_none hk]
   exact ⟨ih1, fun h rest hr => ih2 (by omega) rest hr⟩
  ·rw [piece_some hk, piece_some hk]
   have h1 := hp k t hk
   have h2 := hf t (List.mem_of_getElem? hk)
   refine ⟨Both.app ?_ ih1 (ih2 (by omega)), fun h rest hr => ?_⟩
   ·refine Both.any (Both.any ?_ h1) h2
    by_cases h0 : k = 0
    ·rw [if_pos h0, if_pos h0]; exact Both.nil
    ·rw [if_neg h0, if_neg h0]; exact Both.mark (by decide) (by decide) (by decide)
   ·rw [if_neg (by omega)]
    exact head_safe (by decide)
theorem strB_utf {s : ByteArray} (h : strB s = true) : utf8B s = true /\ s.size <= 400 := by
 unfold strB at h
 simp only [Bool.and_eq_true, decide_eq_true_eq] at h
 exact ⟨h.2, h.1⟩
theorem key_str {n i : Nat} {d : TreeD} {k : ByteArray} (h : shapeT (n + 1) d = true) (hk : d.keys[i]? = some k) : strB k = true := by
 have := (shape_parts h).2.2.2.1 i (List.getElem?_eq_some_iff.1 hk).1
 unfold keyOk at this
 rw [hk] at this
 simp only [Bool.and_eq_true] at this
 exact this.1
theorem both_say : ∀ (n : Nat) (d : TreeD), shapeT n d = true -> numT n d -> Both headOk (sayL n d) (tkL n d)
 | 0, _, h, _ => by cases h
 | n + 1, d, h, hn => by
  have hkids : ∀ t ∈ d.kids, Both headOk (sayL n t) (tkL n t) := fun t ht => by
   obtain ⟨i, hi⟩ := List.getElem?_of_mem ht
   exact both_say n t (shape_kid h hi) (hn.2 t ht)
  rw [sayL_succ, tkL_succ]
  by_cases c1 : d.kind = 1
  ·rw [if_pos c1, if_pos c1]
   exact ⟨LexR.litN.weak, VU.low (by decide)⟩
  rw [if_neg c1, if_neg c1]
  by_cases c2 : d.kind = 2
  ·rw [if_pos c2, if_pos c2]
   cases d.flag with
   | true => exact ⟨LexR.litT.weak, VU.low (by decide)⟩
   | false => exact ⟨LexR.litF.weak, VU.low (by decide)⟩
  rw [if_neg c2, if_neg c2]
  by_cases c3 : d.kind = 3
  ·rw [if_pos c3, if_pos c3]
   exact ⟨LexR.num hn.1, VU.dec _⟩
  rw [if_neg c3, if_neg c3]
  by_cases c4 : d.kind = 4
  ·rw [if_pos c4, if_pos c4]
   have h2 := strB_utf (shape_parts h).2.1
   exact ⟨(LexR.quote h2.1).weak, VU.quote h2.1⟩
  rw [if_neg c4, if_neg c4]
  by_cases c5 : d.kind = 5
  ·rw [if_pos c5, if_pos c5, items_seq]
   refine Both.app (ok := headOk) (Both.any (Both.mark (by decide) (by decide) (by decide)) (both_seq (fun _ _ _ => Both.nil) hkids _ 0).1) (Both.mark (by decide) (by decide) (by decide)).weak (fun rest _ => head_safe (by decide))
  ·rw [if_neg c5, if_neg c5, items_seq]
   refine Both.app (ok := headOk) (Both.any (Both.mark (by decide) (by decide) (by decide)) (both_seq (fun i t _ => ?_) hkids _ 0).1) (Both.mark (by decide) (by decide) (by decide)).weak (fun rest _ => head_safe (by decide))
   unfold preM tkPre
   rcases hk : d.keys[i]? with _ | k
   ·exact Both.nil
   ·have h2 := strB_utf (key_str h hk)
    exact Both.any (T := [(7, k, 0)]) ⟨LexR.quote h2.1, VU.quote h2.1⟩ (Both.mark (by decide) (by decide) (by decide))
theorem bless_irrefl : ∀ a : List UInt8, Op.bytesLess a a = false
 | [] => rfl
 | x :: a => by unfold Op.bytesLess; simp [UInt8.lt_irrefl, bless_irrefl a]
theorem lessS_irrefl (a : ByteArray) : lessS a a = false := bless_irrefl _
def Tok (L : List SignD) (p : Nat) (T : List Tk) : Prop := (L.drop p).map skT = T
theorem Tok.at' {L : List SignD} {p : Nat} {t : Tk} {r : List Tk} (h : Tok L p (t :: r)) : (∃ x, L[p]? = some x /\ x.kind = t.1 /\ x.text = t.2.1 /\ x.num = t.2.2) /\ kindAt L p = t.1 /\ Tok L (p + 1) r := by
 unfold Tok at h
 rcases hd : L.drop p with _ | ⟨x, l⟩
 ·rw [hd] at h; cases h
 ·rw [hd, List.map_cons] at h
  injection h with h1 h2
  have hx : L[p]? = some x := by
   have h3 := congrArg (fun z : List SignD => z[0]?) hd
   simp only [List.getElem?_drop, Nat.add_zero, List.getElem?_cons_zero] at h3
   exact h3
  have hr : Tok L (p + 1) r := by
   unfold Tok
   rw [<- List.drop_drop, hd]
   exact h2
  subst h1
  refine ⟨⟨x, hx, rfl, rfl, rfl⟩, ?_, hr⟩
  unfold kindAt
  rw [hx]
  rfl
theorem Tok.app {L : List SignD} {p : Nat} {a b : List Tk} (h : Tok L p (a ++ b)) : Tok L (p + a.length) b := by
 unfold Tok at h ⊢
 rw [<- List.drop_drop, List.map_drop, h, List.drop_left]
theorem key_less {n : Nat} {d : TreeD} (h : shapeT (n + 1) d = true) : ∀ (j i : Nat) (a b : ByteArray), i < j -> d.keys[i]? = some a -> d.keys[j]? = some b -> lessS a b = true := by
 intro j
 induction j with
 | zero => intro i a b hi; omega
 | succ j ih =>
  intro i a b hi ha hb
  have hj := (List.getElem?_eq_some_iff.1 hb).1
  obtain ⟨c, hc⟩ := exists_at (show j < d.keys.length by omega)
  have h1 := (shape_parts h).2.2.2.1 (j + 1) hj
  rw [keyOk_succ hb hc] at h1
  simp only [Bool.and_eq_true] at h1
  rcases Nat.lt_or_ge i j with hij | hij
  ·exact lessS_trans3 (ih i a c hij ha hc) h1.2
  ·obtain rfl : i = j := by omega
   rw [ha] at hc
   obtain rfl := Option.some.inj hc
   exact h1.2
theorem tw_all {D : Type} {p : D -> Bool} : ∀ {l : List D}, (∀ x ∈ l, p x = true) -> l.takeWhile p = l
 | [], _ => rfl
 | x :: l, h => by rw [List.takeWhile_cons, if_pos (h x (by simp)), tw_all (fun y hy => h y (by simp [hy]))]
theorem posK_last {ks : List ByteArray} {key : ByteArray} (h : ∀ k ∈ ks, lessS k key = true) : posK ks key = ks.length := by
 unfold posK
 rw [tw_all h]
theorem insL_last {D : Type} (l : List D) (x : D) : insL l l.length x = l ++ [x] := by
 unfold insL
 rw [List.take_length, List.drop_length]
theorem not_contains {ks : List ByteArray} {key : ByteArray} (h : ∀ k ∈ ks, lessS k key = true) : ks.contains key = false := by
 rcases hc : ks.contains key with _ | _
 ·rfl
 ·rw [contains_hasS] at hc
  have h1 := h key ((hasS_mem ks key).1 hc)
  rw [lessS_irrefl] at h1
  cases h1
theorem bad_parts {d : TreeD} (h : badH d = false) : (1 <= d.kind /\ d.kind <= 6) /\ (d.kind ≠ 2 -> d.flag = false) /\ (d.kind ≠ 3 -> d.num = 0) /\ (d.kind ≠ 4 -> d.text = ⟨#[]⟩) /\ (d.kind ≠ 6 -> d.keys = []) /\ (d.kind < 5 -> d.kids = []) := by
 unfold badH at h
 simp only [Bool.or_eq_false_iff, Bool.not_eq_false', Bool.and_eq_false_iff, bne_eq_false_iff_eq, decide_eq_false_iff_not, Nat.not_lt, Nat.le_zero, List.length_eq_zero_iff] at h
 obtain ⟨⟨⟨⟨⟨h1, h2⟩, h3⟩, h4⟩, h5⟩, h6⟩ := h
 refine ⟨by unfold inB at h1; exact of_decide_eq_true h1, fun hk => h2.resolve_right hk, fun hk => h3.resolve_right hk, fun hk => ?_, fun hk => h5.resolve_right hk, fun hk => h6.resolve_right (by omega)⟩
 have h7 := h4.resolve_right hk
 rw [List.isEmpty_iff, ByteArray.toList_eq] at h7
 exact ByteArray.ext (Array.toList_inj.1 h7)
theorem tk_pos {n : Nat} {d : TreeD} (h : shapeT n d = true) : 1 <= (tkL n d).length := by
 cases n with
 | zero => cases h
 | succ n =>
  rw [tkL_succ]
  repeat' split
  all_goals simp
theorem first_kind {n p : Nat} {d : TreeD} {L : List SignD} {rest : List Tk} (h : shapeT n d = true) (hT : Tok L p (tkL n d ++ rest)) : kindAt L p ≠ 4 := by
 cases n with
 | zero => cases h
 | succ n =>
  rw [tkL_succ] at hT
  by_cases c1 : d.kind = 1
  ·rw [if_pos c1] at hT; rw [(Tok.at' hT).2.1]; decide
  rw [if_neg c1] at hT
  by_cases c2 : d.kind = 2
  ·rw [if_pos c2] at hT
   cases hfl : d.flag with
   | true => rw [hfl] at hT; rw [(Tok.at' (t := mk 9) hT).2.1]; decide
   | false => rw [hfl] at hT; rw [(Tok.at' (t := mk 10) hT).2.1]; decide
  rw [if_neg c2] at hT
  by_cases c3 : d.kind = 3
  ·rw [if_pos c3] at hT; rw [(Tok.at' hT).2.1]; simp
  rw [if_neg c3] at hT
  by_cases c4 : d.kind = 4
  ·rw [if_pos c4] at hT; rw [(Tok.at' hT).2.1]; simp
  rw [if_neg c4] at hT
  by_cases c5 : d.kind = 5
  ·rw [if_pos c5] at hT; rw [(Tok.at' (t := mk 3) hT).2.1]; decide
  ·rw [if_neg c5] at hT; rw [(Tok.at' (t := mk 1) hT).2.1]; decide
def BackT (n : Nat) (d : TreeD) : Prop := ∀ (L : List SignD) (E : Int) (p m fuel deep : Nat) (rest : List Tk), Tok L p (tkL n d ++ rest) -> deep + depthT n d <= 9 -> m + sizeT n d <= 300 -> (tkL n d).length <= fuel ->
  readJ L E fuel (.value deep) p m = .good d (p + (tkL n d).length) (m + sizeT n d)
theorem seq_kids {D : Type} {l : List D} {k : Nat} {t : D} (h : l[k]? = some t) : l.drop k = t :: l.drop (k + 1) := by
 obtain ⟨h1, h2⟩ := List.getElem?_eq_some_iff.1 h
 rw [List.drop_eq_getElem_cons h1, h2]
theorem list_back {n : Nat} {l : List TreeD} (hb : ∀ t ∈ l, BackT n t) (hp : ∀ t ∈ l, 1 <= (tkL n t).length) : ∀ (r k : Nat) (t : TreeD), l[k]? = some t -> k + r + 1 = l.length -> ∀ (L : List SignD) (E : Int) (p m fuel deep : Nat) (rest : List Tk),
  Tok L p (tkL n t ++ (seqP (pieceP [mk 6] (fun _ => []) (tkL n) l) (k + 1) r ++ mk 4 :: rest)) -> (∀ t ∈ l, deep + 1 + depthT n t <= 9) -> m + szL (sizeT n) (l.drop k) <= 300 -> (tkL n t).length + (seqP (pieceP [mk 6] (fun _ => []) (tkL n) l) (k + 1) r).length + 1 <= fuel ->
  readJ L E fuel (.list deep (l.take k)) p m = .good (tList l) (p + (tkL n t).length + (seqP (pieceP [mk 6] (fun _ => []) (tkL n) l) (k + 1) r).length + 1) (m + szL (sizeT n) (l.drop k)) := by
 intro r
 induction r with
 | zero =>
  intro k t hk hkr L E p m fuel deep rest hT hd hm hf
  obtain ⟨f, rfl⟩ : ∃ f, fuel = f + 1 := ⟨fuel - 1, by omega⟩
  have htm := List.mem_of_getElem? hk
  have hsz : szL (sizeT n) (l.drop k) = sizeT n t := by
   rw [seq_kids hk, List.drop_of_length_le (by omega)]
   simp [szL]
  have hv := hb t htm L E p m f (deep + 1) _ hT (hd t htm) (by omega) (by simp only [seqP, List.length_nil] at hf; omega)
  have h2 := hT.app
  simp only [seqP, List.nil_append] at h2
  have h3 := h2.at'.2.1
  rw [readJ_list, hv]
  simp only
  rw [if_pos (show kindAt L (p + (tkL n t).length) = 4 from h3), hsz]
  have hl : l.take k ++ [t] = l := by rw [<- take_next hk, List.take_of_length_le (by omega)]
  rw [hl]
  rfl
 | succ r ih =>
  intro k t hk hkr L E p m fuel deep rest hT hd hm hf
  obtain ⟨f, rfl⟩ : ∃ f, fuel = f + 1 := ⟨fuel - 1, by omega⟩
  have htm := List.mem_of_getElem? hk
  obtain ⟨u, hu⟩ := exists_at (show k + 1 < l.length by omega)
  have hsz : szL (sizeT n) (l.drop k) = sizeT n t + szL (sizeT n) (l.drop (k + 1)) := by
   rw [seq_kids hk]
   simp [szL]
  rw [seqP_succ, piece_some hu, if_neg (by omega)] at hT hf ⊢
  simp only [List.append_nil, List.cons_append, List.nil_append, List.length_append, List.length_cons, List.append_assoc] at hT hf ⊢
  have hv := hb t htm L E p m f (deep + 1) _ hT (hd t htm) (by omega) (by omega)
  have h2 := hT.app
  have h3 := h2.at'
  have htp := hp t htm
  rw [readJ_list, hv]
  simp only
  rw [if_neg (by rw [h3.2.1]; decide), if_pos (show kindAt L (p + (tkL n t).length) = 6 from h3.2.1), <- take_next hk]
  rw [ih (k + 1) u hu (by omega) L E (p + (tkL n t).length + 1) (m + sizeT n t) f deep rest h3.2.2 hd (by omega) (by omega), hsz]
  congr 1
  ·omega
  ·omega
theorem pairs_back {n : Nat} {ks : List ByteArray} {l : List TreeD} (hb : ∀ t ∈ l, BackT n t) (hp : ∀ t ∈ l, 1 <= (tkL n t).length) (hlen : ks.length = l.length) (hks : ∀ k ∈ ks, k.size <= 400) (hless : ∀ (j i : Nat) (a b : ByteArray), i < j -> ks[i]? = some a -> ks[j]? = some b -> lessS a b = true) : ∀ (r k : Nat) (key : ByteArray) (t : TreeD), ks[k]? = some key -> l[k]? = some t -> k + r + 1 = l.length -> ∀ (L : List SignD) (E : Int) (p m fuel deep : Nat) (rest : List Tk),
  Tok L p ((7, key, 0) :: mk 5 :: (tkL n t ++ (seqP (pieceP [mk 6] (tkPre ks) (tkL n) l) (k + 1) r ++ mk 2 :: rest))) -> (∀ t ∈ l, deep + 1 + depthT n t <= 9) -> m + szL (sizeT n) (l.drop k) <= 300 -> 2 + (tkL n t).length + (seqP (pieceP [mk 6] (tkPre ks) (tkL n) l) (k + 1) r).length + 1 <= fuel ->
  readJ L E fuel (.pairs deep (ks.take k) (l.take k)) p m = .good (tMap ks l) (p + 2 + (tkL n t).length + (seqP (pieceP [mk 6] (tkPre ks) (tkL n) l) (k + 1) r).length + 1) (m + szL (sizeT n) (l.drop k)) := by
 intro r
 induction r with
 | zero =>
  intro k key t hkey hk hkr L E p m fuel deep rest hT hd hm hf
  obtain ⟨f, rfl⟩ : ∃ f, fuel = f + 1 := ⟨fuel - 1, by omega⟩
  have htm := List.mem_of_getElem? hk
  have hlk : ∀ x ∈ ks.take k, lessS x key = true := fun x hx => by
   obtain ⟨i, hi⟩ := List.getElem?_of_mem hx
   rw [List.getElem?_take] at hi
   split at hi
   ·exact hless k i x key (by omega) hi hkey
   ·cases hi
  have hsz : szL (sizeT n) (l.drop k) = sizeT n t := by
   rw [seq_kids hk, List.drop_of_length_le (by omega)]
   simp [szL]
  obtain ⟨⟨x, hx, hx1, hx2, -⟩, -, hT1⟩ := hT.at'
  obtain ⟨-, hk5, hT2⟩ := hT1.at'
  have hv := hb t htm L E (p + 2) m f (deep + 1) _ hT2 (hd t htm) (by omega) (by omega)
  have h2 := hT2.app
  simp only [seqP, List.nil_append] at h2
  have h3 := h2.at'.2.1
  have hxt : x.text = key := hx2
  have hpk : posK (ks.take k) key = (ks.take k).length := posK_last hlk
  have hkl : (ks.take k).length = k := by rw [List.length_take]; omega
  have hll : (l.take k).length = k := by rw [List.length_take]; omega
  rw [readJ_pairs, hx]
  simp only
  rw [if_neg (by rw [hx1]; simp), hxt, if_neg (by have := hks key (List.mem_of_getElem? hkey); omega), if_neg (by rw [not_contains hlk]; decide), if_neg (by rw [hk5]; decide), hv]
  simp only
  rw [if_pos (show kindAt L (p + 2 + (tkL n t).length) = 2 from h3), hpk, insL_last, hkl]
  rw [show insL (l.take k) k t = l.take k ++ [t] by
   have := insL_last (l.take k) t
   rw [hll] at this
   exact this, <- take_next hk, <- take_next hkey, List.take_of_length_le (by omega), List.take_of_length_le (by omega), hsz]
  rfl
 | succ r ih =>
  intro k key t hkey hk hkr L E p m fuel deep rest hT hd hm hf
  obtain ⟨f, rfl⟩ : ∃ f, fuel = f + 1 := ⟨fuel - 1, by omega⟩
  have htm := List.mem_of_getElem? hk
  obtain ⟨u, hu⟩ := exists_at (show k + 1 < l.length by omega)
  obtain ⟨kv, hkv⟩ := exists_at (show k + 1 < ks.length by omega)
  have hlk : ∀ x ∈ ks.take k, lessS x key = true := fun x hx => by
   obtain ⟨i, hi⟩ := List.getElem?_of_mem hx
   rw [List.getElem?_take] at hi
   split at hi
   ·exact hless k i x key (by omega) hi hkey
   ·cases hi
  have hsz : szL (sizeT n) (l.drop k) = sizeT n t + szL (sizeT n) (l.drop (k + 1)) := by
   rw [seq_kids hk]
   simp [szL]
  have htk : tkPre ks (k + 1) = [(7, kv, 0), mk 5] := by unfold tkPre; rw [hkv]
  rw [seqP_succ, piece_some hu, if_neg (by omega), htk] at hT hf ⊢
  simp only [List.cons_append, List.nil_append, List.length_append, List.length_cons, List.append_assoc] at hT hf ⊢
  obtain ⟨⟨x, hx, hx1, hx2, -⟩, -, hT1⟩ := hT.at'
  obtain ⟨-, hk5, hT2⟩ := hT1.at'
  have hv := hb t htm L E (p + 2) m f (deep + 1) _ hT2 (hd t htm) (by omega) (by omega)
  have h2 := hT2.app
  have h3 := h2.at'
  have htp := hp t htm
  have hxt : x.text = key := hx2
  have hpk : posK (ks.take k) key = (ks.take k).length := posK_last hlk
  have hkl : (ks.take k).length = k := by rw [List.length_take]; omega
  have hll : (l.take k).length = k := by rw [List.length_take]; omega
  rw [readJ_pairs, hx]
  simp only
  rw [if_neg (by rw [hx1]; simp), hxt, if_neg (by have := hks key (List.mem_of_getElem? hkey); omega), if_neg (by rw [not_contains hlk]; decide), if_neg (by rw [hk5]; decide), hv]
  simp only
  rw [if_neg (by rw [h3.2.1]; decide), if_pos (show kindAt L (p + 2 + (tkL n t).length) = 6 from h3.2.1), hpk, insL_last, hkl]
  rw [show insL (l.take k) k t = l.take k ++ [t] by
   have := insL_last (l.take k) t
   rw [hll] at this
   exact this, <- take_next hk, <- take_next hkey]
  rw [ih (k + 1) kv u hkv hu (by omega) L E (p + 2 + (tkL n t).length + 1) (m + sizeT n t) f deep rest h3.2.2 hd (by omega) (by omega), hsz]
  congr 1
  ·omega
  ·omega
theorem back_tree : ∀ (n : Nat) (d : TreeD), shapeT n d = true -> BackT n d
 | 0, _, h => by cases h
 | n + 1, d, h => by
  have hkid : ∀ t ∈ d.kids, shapeT n t = true /\ depthT n t + 1 <= depthT (n + 1) d := fun t ht => by
   obtain ⟨i, hi⟩ := List.getElem?_of_mem ht
   exact ⟨shape_kid h hi, (depth_kid hi).2⟩
  have hb : ∀ t ∈ d.kids, BackT n t := fun t ht => back_tree n t (hkid t ht).1
  have hp : ∀ t ∈ d.kids, 1 <= (tkL n t).length := fun t ht => tk_pos (hkid t ht).1
  obtain ⟨b1, b2, b3, b4, b5, b6⟩ := bad_parts (shape_parts h).1
  have hstr := strB_utf (shape_parts h).2.1
  have hlen := (shape_parts h).2.2.1
  have hkeys : ∀ k ∈ d.keys, k.size <= 400 := fun k hk => by
   obtain ⟨i, hi⟩ := List.getElem?_of_mem hk
   exact shape_key h hi
  have hless := key_less h
  intro L E p m fuel deep rest hT hd hm hf
  have hd1 : 1 <= depthT (n + 1) d := by rw [depthT_succ]; omega
  have hs1 : 1 <= sizeT (n + 1) d := by rw [sizeT_succ]; omega
  have hdk : ∀ t ∈ d.kids, deep + 1 + depthT n t <= 9 := fun t ht => by have := (hkid t ht).2; omega
  have hf1 := tk_pos h
  obtain ⟨f, rfl⟩ : ∃ f, fuel = f + 1 := ⟨fuel - 1, by omega⟩
  have hz0 : d.kids = [] -> sizeT (n + 1) d = 1 := fun e => by rw [sizeT_succ, e]; rfl
  have hzk : sizeT (n + 1) d = 1 + szL (sizeT n) d.kids := sizeT_succ n d
  obtain ⟨z, hz⟩ : ∃ z, z = sizeT (n + 1) d := ⟨_, rfl⟩
  rw [<- hz] at hm hs1 hz0 hzk ⊢
  have hdeep : deep <= 8 := by omega
  clear hd hd1 hz
  rw [tkL_succ] at hT hf ⊢
  obtain ⟨kd, fl, nm, tx, ks, kids⟩ := d
  simp only at hstr hkid hb hp b1 b2 b3 b4 b5 b6 hkeys hless hdk hz0 hzk hT hf ⊢
  by_cases c1 : kd = 1
  ·rw [if_pos c1] at hT hf ⊢
   obtain ⟨⟨x, hx, hx1, hx2, hx3⟩, hk, -⟩ := hT.at'
   have hk' : kindAt L p = 11 := hk
   have hxk : x.kind = 11 := hx1
   have hz1 := hz0 (b6 (by omega))
   rw [b2 (by omega), b3 (by omega), b4 (by omega), b5 (by omega), b6 (by omega), c1, hz1]
   rw [readJ_value, if_neg (by omega), if_neg (by omega), if_neg (by omega), hx]
   simp only
   rw [if_neg (by omega), if_neg (by omega), if_pos hxk]
   rfl
  rw [if_neg c1] at hT hf ⊢
  by_cases c2 : kd = 2
  ·rw [if_pos c2] at hT hf ⊢
   have hz1 := hz0 (b6 (by omega))
   rw [b3 (by omega), b4 (by omega), b5 (by omega), b6 (by omega), c2, hz1]
   cases fl with
   | true =>
    obtain ⟨⟨x, hx, hx1, hx2, hx3⟩, hk, -⟩ := hT.at'
    have hk' : kindAt L p = 9 := hk
    have hxk : x.kind = 9 := hx1
    rw [readJ_value, if_neg (by omega), if_neg (by omega), if_neg (by omega), hx]
    simp only
    rw [if_neg (by omega), if_neg (by omega), if_neg (by omega), if_neg (by omega), if_neg (by omega), hxk]
    rfl
   | false =>
    obtain ⟨⟨x, hx, hx1, hx2, hx3⟩, hk, -⟩ := hT.at'
    have hk' : kindAt L p = 10 := hk
    have hxk : x.kind = 10 := hx1
    rw [readJ_value, if_neg (by omega), if_neg (by omega), if_neg (by omega), hx]
    simp only
    rw [if_neg (by omega), if_neg (by omega), if_neg (by omega), if_neg (by omega), if_neg (by omega), hxk]
    rfl
  rw [if_neg c2] at hT hf ⊢
  by_cases c3 : kd = 3
  ·rw [if_pos c3] at hT hf ⊢
   obtain ⟨⟨x, hx, hx1, hx2, hx3⟩, hk, -⟩ := hT.at'
   have hk' : kindAt L p = 8 := hk
   have hxk : x.kind = 8 := hx1
   have hxn : x.num = nm := hx3
   have hz1 := hz0 (b6 (by omega))
   rw [b2 (by omega), b4 (by omega), b5 (by omega), b6 (by omega), c3, hz1]
   rw [readJ_value, if_neg (by omega), if_neg (by omega), if_neg (by omega), hx]
   simp only
   rw [if_neg (by omega), if_pos hxk, hxn]
   rfl
  rw [if_neg c3] at hT hf ⊢
  by_cases c4 : kd = 4
  ·rw [if_pos c4] at hT hf ⊢
   obtain ⟨⟨x, hx, hx1, hx2, hx3⟩, hk, -⟩ := hT.at'
   have hk' : kindAt L p = 7 := hk
   have hxk : x.kind = 7 := hx1
   have hxt : x.text = tx := hx2
   have hz1 := hz0 (b6 (by omega))
   rw [b2 (by omega), b3 (by omega), b5 (by omega), b6 (by omega), c4, hz1]
   rw [readJ_value, if_neg (by omega), if_neg (by omega), if_neg (by omega), hx]
   simp only
   rw [if_pos hxk, hxt, if_neg (by omega)]
   rfl
  rw [if_neg c4] at hT hf ⊢
  by_cases c5 : kd = 5
  ·rw [if_pos c5] at hT hf ⊢
   rw [List.append_assoc, List.append_assoc] at hT
   obtain ⟨⟨x, hx, hx1, hx2, hx3⟩, hk, hT1⟩ := Tok.at' (t := mk 3) hT
   have hk' : kindAt L p = 3 := hk
   have hxk : x.kind = 3 := hx1
   rw [b2 (by omega), b3 (by omega), b4 (by omega), b5 (by omega), c5]
   rw [readJ_value, if_neg (by omega), if_neg (by omega), if_neg (by omega), hx]
   simp only
   rw [if_neg (by omega), if_neg (by omega), if_neg (by omega), if_pos hxk]
   rcases hl : kids with _ | ⟨t, r⟩
   ·rw [hl] at hT1 hz0
    obtain ⟨-, hk2, -⟩ := Tok.at' (t := mk 4) hT1
    rw [if_pos (show kindAt L (p + 1) = 4 from hk2), hz0 rfl]
    rfl
   ·have h0 : kids[0]? = some t := by rw [hl]; rfl
    rw [<- hl]
    obtain ⟨q, hq⟩ : ∃ q, kids.length = q + 1 := ⟨r.length, by rw [hl]; rfl⟩
    rw [hq, seqP_succ, piece_some h0, if_pos rfl] at hT1 hf ⊢
    simp only [List.nil_append, List.append_assoc, List.length_append, List.length_cons, List.length_nil, List.cons_append] at hT1 hf ⊢
    have hne : kindAt L (p + 1) ≠ 4 := first_kind (hkid t (List.mem_of_getElem? h0)).1 hT1
    rw [if_neg hne]
    have hb2 := list_back hb hp q 0 t h0 (by omega) L E (p + 1) (m + 1) f deep rest hT1 hdk (by rw [List.drop_zero]; omega) (by omega)
    rw [List.take_zero, List.drop_zero] at hb2
    rw [hb2]
    unfold tList
    congr 1
    ·omega
    ·omega
  ·rw [if_neg c5] at hT hf ⊢
   have c6 : kd = 6 := by omega
   rw [List.append_assoc, List.append_assoc] at hT
   obtain ⟨⟨x, hx, hx1, hx2, hx3⟩, hk, hT1⟩ := Tok.at' (t := mk 1) hT
   have hk' : kindAt L p = 1 := hk
   have hxk : x.kind = 1 := hx1
   have hkl : ks.length = kids.length := by
    unfold lensOk at hlen
    simp only [Bool.not_eq_true', Bool.and_eq_false_iff, decide_eq_false_iff_not, ne_eq, Decidable.not_not] at hlen
    exact hlen.resolve_left (by simp [c6])
   rw [b2 (by omega), b3 (by omega), b4 (by omega), c6]
   rw [readJ_value, if_neg (by omega), if_neg (by omega), if_neg (by omega), hx]
   simp only
   rw [if_neg (by omega), if_neg (by omega), if_neg (by omega), if_neg (by omega), if_pos hxk]
   rcases hl : kids with _ | ⟨t, r⟩
   ·rw [hl] at hT1 hz0 hkl
    obtain ⟨-, hk2, -⟩ := Tok.at' (t := mk 2) hT1
    rw [if_pos (show kindAt L (p + 1) = 2 from hk2), hz0 rfl, List.length_eq_zero_iff.1 hkl]
    rfl
   ·have h0 : kids[0]? = some t := by rw [hl]; rfl
    obtain ⟨q, hq⟩ : ∃ q, kids.length = q + 1 := ⟨r.length, by rw [hl]; rfl⟩
    rw [<- hl]
    obtain ⟨key, hkey⟩ := exists_at (show 0 < ks.length by omega)
    have htk : tkPre ks 0 = [(7, key, 0), mk 5] := by unfold tkPre; rw [hkey]
    rw [hq, seqP_succ, piece_some h0, if_pos rfl, htk] at hT1 hf ⊢
    simp only [List.nil_append, List.append_assoc, List.length_append, List.length_cons, List.length_nil, List.cons_append] at hT1 hf ⊢
    have hk7 : kindAt L (p + 1) = 7 := (Tok.at' hT1).2.1
    rw [if_neg (by omega)]
    have hb2 := pairs_back hb hp hkl hkeys hless q 0 key t hkey h0 (by omega) L E (p + 1) (m + 1) f deep rest hT1 hdk (by rw [List.drop_zero]; omega) (by omega)
    rw [List.take_zero, List.take_zero, List.drop_zero] at hb2
    rw [hb2]
    unfold tMap
    congr 1
    ·omega
    ·omega
end Go.Proofs.YtohcpifekcehjaaGreatDoor
