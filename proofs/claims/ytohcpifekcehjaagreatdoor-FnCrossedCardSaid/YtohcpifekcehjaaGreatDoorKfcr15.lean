/- Steps to FnCrossed. No conditions. -/
import Derived.Test.YtohcpifekcehjaaGreatDoorKfcr5
import Derived.Test.YtohcpifekcehjaaGreatDoorKfcr10
import Derived.Test.YtohcpifekcehjaaGreatDoorKfcr11
import Derived.Test.YtohcpifekcehjaaGreatDoorKfcr6
import Derived.Test.YtohcpifekcehjaaGreatDoorKfcr8
import Derived.Deep.RegionLaw
import Derived.Test.YtohcpifekcehjaaGreatDoorKfcr1
set_option maxHeartbeats 16000000
set_option maxRecDepth 20000
namespace Go.Proofs.YtohcpifekcehjaaGreatDoor
open Go.RowKit Go.Lib
theorem whole_i64 (s : ByteArray) (j : Nat) : I64 (wholeB s j).1 := by
 unfold wholeB;split
 ·split
  ·unfold wholeA
   split
   ·exact i64_zero
   ·rw [if_pos rfl]
    split
    ·unfold I64; simp only; omega
    ·exact i64_zero
  ·unfold wholeA
   split
   ·exact i64_zero
   ·rw [if_neg (by decide)]
    split
    ·unfold I64; simp only; omega
    ·exact i64_zero
 ·exact i64_zero
theorem plain_str {s : ByteArray} (h : plainB s = true) : strB s = true := by
 unfold plainB at h;simp only [Bool.and_eq_true, decide_eq_true_eq] at h;unfold strB;rw [h.1.1.1.1.1.1.1.1.1.2, decide_eq_true h.1.1.1.1.1.1.1.1.1.1.2];rfl
theorem quot_str {s : ByteArray} {j : Nat} (h : 0 <= (quotB s j).2) (hs : (quotB s j).1.size <= 400) : strB (quotB s j).1 = true := by
 have h1 := (quotB_cost (s := s) (j := j) (by omega)).1;unfold strB;rw [h1, decide_eq_true hs];rfl
theorem scal_ok {s : ByteArray} {t : TreeD} (h : scalB s = some t) {N d : Nat} (hd : d <= 8) : VOk (N + 1) d t /\ sizeT (N + 1) t = 1 := by
 unfold scalB at h;by_cases c1 : s = bs [91, 93]
 ·rw [if_pos c1] at h
  cases h
  exact leaf_ok hd (by unfold badH tList inB; simp) strB_empty (by unfold lensOk tList; simp) rfl rfl i64_zero
 rw [if_neg c1] at h;by_cases c2 : s = bs [123, 125]
 ·rw [if_pos c2] at h
  cases h
  exact leaf_ok hd (by unfold badH tMap inB; simp) strB_empty (by unfold lensOk tMap; simp) rfl rfl i64_zero
 rw [if_neg c2] at h;by_cases c3 : s = bs [110, 117, 108, 108] ∨ s = bs [126]
 ·rw [if_pos c3] at h
  cases h
  exact leaf_ok hd (by unfold badH tNull inB; simp) strB_empty (by unfold lensOk tNull; simp) rfl rfl i64_zero
 rw [if_neg c3] at h;by_cases c4 : s = bs [116, 114, 117, 101]
 ·rw [if_pos c4] at h
  cases h
  exact leaf_ok hd (by unfold badH tFlag inB; simp) strB_empty (by unfold lensOk tFlag; simp) rfl rfl i64_zero
 rw [if_neg c4] at h;by_cases c5 : s = bs [102, 97, 108, 115, 101]
 ·rw [if_pos c5] at h
  cases h
  exact leaf_ok hd (by unfold badH tFlag inB; simp) strB_empty (by unfold lensOk tFlag; simp) rfl rfl i64_zero
 rw [if_neg c5] at h;by_cases c6 : 0 < s.size /\ byteI s 0 = 34
 ·rw [if_pos c6] at h
  by_cases c7 : (quotB s 0).2 = s.size /\ (quotB s 0).1.size <= 400
  ·rw [if_pos c7] at h
   cases h
   exact leaf_ok hd (by unfold badH tText inB; simp) (quot_str (by omega) c7.2) (by unfold lensOk tText; simp) rfl rfl i64_zero
  ·rw [if_neg c7] at h; cases h
 rw [if_neg c6] at h;by_cases c8 : (wholeB s 0).2 = s.size /\ 0 < (wholeB s 0).2
 ·rw [if_pos c8] at h
  cases h
  exact leaf_ok hd (by unfold badH tInt inB; simp) strB_empty (by unfold lensOk tInt; simp) rfl rfl (whole_i64 s 0)
 rw [if_neg c8] at h;by_cases c9 : plainB s = true
 ·rw [if_pos c9] at h
  cases h
  exact leaf_ok hd (by unfold badH tText inB; simp) (plain_str c9) (by unfold lensOk tText; simp) rfl rfl i64_zero
 ·rw [if_neg c9] at h; cases h
theorem bs_len (l : List UInt8) : (bs l).size = l.length := by show l.toArray.size = l.length; simp
theorem trimL_le (l : List UInt8) : (trimLeftB l 32).length <= l.length := by
 unfold trimLeftB;exact (List.dropWhile_sublist _).length_le
theorem tail_le (s : ByteArray) (i : Nat) : (tailL s i).size <= s.size - i := by
 unfold tailL;rw [bs_len];have h1 := trimL_le (s.data.toList.drop i);have h2 : s.data.toList.length = s.size := Array.length_toList;rw [List.length_drop] at h1;omega
theorem key_str' {s key rest : ByteArray} (h : keyB s = some (key, rest)) (hk : ¬ 400 < key.size) : strB key = true := by
 unfold keyB at h;by_cases c1 : 0 < s.size /\ byteI s 0 = 34
 ·rw [if_pos c1] at h
  by_cases c2 : 0 <= (quotB s 0).2 /\ endsB s (quotB s 0).2.toNat = true
  ·rw [if_pos c2] at h
   cases h
   exact quot_str c2.1 (by omega)
  ·rw [if_neg c2] at h; cases h
 ·rw [if_neg c1] at h
  rcases hf : findE s s.size 0 with _ | i
  ·rw [hf] at h; cases h
  ·rw [hf] at h
   simp only at h;by_cases c3 : plainB (bs (s.data.toList.take i)) = true
   ·rw [if_pos c3] at h
    cases h
    exact plain_str c3
   ·rw [if_neg c3] at h; cases h
theorem item_le {s rest : ByteArray} {k : Nat} (h : itemB s = some (rest, k)) : rest.size <= s.size := by
 unfold itemB at h;by_cases c1 : s = bs [45]
 ·rw [if_pos c1] at h
  cases h
  exact Nat.zero_le _
 ·rw [if_neg c1] at h
  by_cases c2 : 2 <= s.size /\ byteI s 0 = 45 /\ byteI s 1 = 32
  ·rw [if_pos c2] at h
   cases h
   have := tail_le s 2;omega
  ·rw [if_neg c2] at h; cases h
theorem item_more {s rest : ByteArray} {k : Nat} (h : itemB s = some (rest, k)) (hk : k ≠ 0) : rest.size + 2 <= s.size := by
 unfold itemB at h;by_cases c1 : s = bs [45]
 ·rw [if_pos c1] at h
  cases h
  exact absurd rfl hk
 ·rw [if_neg c1] at h
  by_cases c2 : 2 <= s.size /\ byteI s 0 = 45 /\ byteI s 1 = 32
  ·rw [if_pos c2] at h
   cases h
   have := tail_le s 2;omega
  ·rw [if_neg c2] at h; cases h
theorem readK_value (n d : Nat) (x : LineD) (r : List LineD) (m : Nat) : readK (n + 1) (.value d) (x :: r) m = (match beginF d m x.at' with
   | some f => .bad f
   | none =>
    if (itemB x.text).isSome then readK n (.list x.ind d []) (x :: r) (m + 1)
    else if (keyB x.text).isSome then readK n (.pairs x.ind d [] []) (x :: r) (m + 1)
    else match scalB x.text with
     | some t => .good t r (m + 1)
     | none => .bad (fltA 4 x.at')) := rfl
def below? (i : Nat) : List LineD -> Bool
 | [] => false
 | x :: _ => decide (i < x.ind)
theorem readK_below (n i d a : Nat) (L : List LineD) (m : Nat) : readK (n + 1) (.below i d a) L m = if below? i L = true then readK n (.value d) L m else (match beginF d m a with
   | some f => .bad f
   | none => .good tNull L (m + 1)) := by
 cases L <;> rfl
def itemJ (n i d : Nat) (x : LineD) (r : List LineD) (rest : ByteArray) (k m : Nat) : ResI := if k = 0 then readK n (.below i (d + 1) x.at') r m else readK n (.value (d + 1)) (⟨i + k, rest, x.at'⟩ :: r) m
theorem readK_list (n i d : Nat) (acc : List TreeD) (x : LineD) (r : List LineD) (m : Nat) : readK (n + 1) (.list i d acc) (x :: r) m = if x.ind ≠ i then .good (tList acc) (x :: r) m else (match itemB x.text with
   | none => .good (tList acc) (x :: r) m
   | some (rest, k) => match itemJ n i d x r rest k m with
    | .bad f => .bad f
    | .good t L' m' => readK n (.list i d (acc ++ [t])) L' m') := rfl
theorem readK_list_nil (n i d : Nat) (acc : List TreeD) (m : Nat) : readK (n + 1) (.list i d acc) [] m = .good (tList acc) [] m := rfl
def pairJ (n i d : Nat) (x : LineD) (r : List LineD) (rest : ByteArray) (m : Nat) : ResI := if rest.size = 0 then readK n (.below i (d + 1) x.at') r m else match beginF (d + 1) m x.at' with
      | some f => .bad f
      | none => match scalB rest with
       | none => .bad (fltA 4 x.at')
       | some t => .good t r (m + 1)
theorem readK_pairs (n i d : Nat) (ks : List ByteArray) (acc : List TreeD) (x : LineD) (r : List LineD) (m : Nat) : readK (n + 1) (.pairs i d ks acc) (x :: r) m = if x.ind ≠ i ∨ (itemB x.text).isSome then .good (tMap ks acc) (x :: r) m else (match keyB x.text with
   | none => .good (tMap ks acc) (x :: r) m
   | some (key, rest) =>
    if 400 < key.size then .bad (fltA 8 x.at')
    else if ks.contains key then .bad (fltA 5 x.at')
    else match pairJ n i d x r rest m with
     | .bad f => .bad f
     | .good t L' m' => readK n (.pairs i d (insL ks (posK ks key) key) (insL acc (posK ks key) t)) L' m') := rfl
theorem readK_pairs_nil (n i d : Nat) (ks : List ByteArray) (acc : List TreeD) (m : Nat) : readK (n + 1) (.pairs i d ks acc) [] m = .good (tMap ks acc) [] m := rfl
theorem begin_none {d m a : Nat} (h : beginF d m a = none) : d <= 8 /\ m < 300 := by
 unfold beginF at h;by_cases c1 : 8 < d
 ·rw [if_pos c1] at h; cases h
 ·rw [if_neg c1] at h
  by_cases c2 : 300 <= m
  ·rw [if_pos c2] at h; cases h
  ·omega
theorem begin_code {d m a : Nat} {f : Flt} (h : beginF d m a = some f) : f.code ≠ 0 := by
 unfold beginF at h;by_cases c1 : 8 < d
 ·rw [if_pos c1] at h
  cases h
  exact (show (6 : Int) ≠ 0 by decide)
 ·rw [if_neg c1] at h
  by_cases c2 : 300 <= m
  ·rw [if_pos c2] at h
   cases h
   exact (show (7 : Int) ≠ 0 by decide)
  ·rw [if_neg c2] at h; cases h
def JobIOk (j : JobI) (m : Nat) (t : TreeD) (m' : Nat) : Prop := match j with
 | .value d => ∀ N, N + d = 11 -> VOk N d t /\ m' = m + sizeT N t /\ m' <= 300
 | .below _ d _ => ∀ N, N + d = 11 -> VOk N d t /\ m' = m + sizeT N t /\ m' <= 300
 | .list _ d acc => ∀ N, N + d = 10 -> ∃ more, t = tList (acc ++ more) /\ (∀ x ∈ more, VOk N (d + 1) x) /\ m' = m + szL (sizeT N) more /\ m' <= 300
 | .pairs _ d ks acc => ∀ N, N + d = 10 -> ks.length = acc.length -> SortK ks -> (∀ k ∈ ks, strB k = true) -> (∀ x ∈ acc, VOk N (d + 1) x) -> ∃ ks' l', t = tMap ks' l' /\ ks'.length = l'.length /\ SortK ks' /\ (∀ k ∈ ks', strB k = true) /\ (∀ x ∈ l', VOk N (d + 1) x) /\
   m' + szL (sizeT N) acc = m + szL (sizeT N) l' /\ m' <= 300
theorem readK_ok : ∀ (n : Nat) (j : JobI) (L : List LineD) (m : Nat) (t : TreeD) (L' : List LineD) (m' : Nat), readK n j L m = .good t L' m' -> m <= 300 -> JobIOk j m t m'
 | 0, j, L, m, t, L', m', h, _ => by cases h
 | n + 1, .value d, [], m, t, L', m', h, hm => by cases h
 | n + 1, .value d, x :: r, m, t, L', m', h, hm => by
  rw [readK_value] at h;rcases hb : beginF d m x.at' with _ | f
  ·rw [hb] at h
   simp only at h;obtain ⟨hd, hm3⟩ := begin_none hb;intro N hN;obtain ⟨N, rfl⟩ : ∃ M, N = M + 1 := ⟨N - 1, by omega⟩
   by_cases c1 : (itemB x.text).isSome = true
   ·rw [if_pos c1] at h
    obtain ⟨more, g1, g2, g3, g4⟩ := readK_ok n _ _ _ _ _ _ h (by omega) N (by omega);rw [List.nil_append] at g1;subst g1;refine ⟨list_ok hd g2, ?_, g4⟩;rw [sizeT_succ];show m' = m + (1 + szL (sizeT N) more)
    omega
   rw [if_neg c1] at h;by_cases c2 : (keyB x.text).isSome = true
   ·rw [if_pos c2] at h
    obtain ⟨ks, l, g1, g2, g3, g4, g5, g6, g7⟩ := readK_ok n _ _ _ _ _ _ h (by omega) N (by omega) rfl List.Pairwise.nil (fun k hk => by cases hk) (fun k hk => by cases hk);subst g1;simp only [szL] at g6;refine ⟨map_ok hd g2 g3 g4 g5, ?_, g7⟩;rw [sizeT_succ];show m' = m + (1 + szL (sizeT N) l)
    omega
   rw [if_neg c2] at h;rcases hs : scalB x.text with _ | u
   ·rw [hs] at h; cases h
   ·rw [hs] at h
    cases h
    have h1 := scal_ok hs (N := N) hd;exact ⟨h1.1, by rw [h1.2], by omega⟩
  ·rw [hb] at h; cases h
 | n + 1, .below i d a, L, m, t, L', m', h, hm => by
  rw [readK_below] at h;by_cases c : below? i L = true
  ·rw [if_pos c] at h
   exact readK_ok n (.value d) L m t L' m' h hm
  ·rw [if_neg c] at h
   rcases hb : beginF d m a with _ | f
   ·rw [hb] at h
    obtain ⟨hd, hm3⟩ := begin_none hb;cases h
    intro N hN;obtain ⟨N, rfl⟩ : ∃ M, N = M + 1 := ⟨N - 1, by omega⟩
    obtain ⟨h1, h2⟩ := leaf_ok (N := N) (d := d) (t := tNull) hd (by unfold badH tNull inB; simp) strB_empty (by unfold lensOk tNull; simp) rfl rfl i64_zero;exact ⟨h1, by rw [h2], by omega⟩
   ·rw [hb] at h; cases h
 | n + 1, .list i d acc, [], m, t, L', m', h, hm => by
  cases h
  intro N hN;exact ⟨[], by rw [List.append_nil], fun x hx => (by cases hx), rfl, hm⟩
 | n + 1, .list i d acc, x :: r, m, t, L', m', h, hm => by
  rw [readK_list] at h
  have stop : ∀ {t L' m'}, ResI.good (tList acc) (x :: r) m = .good t L' m' -> JobIOk (.list i d acc) m t m' := fun e => by
   cases e
   intro N hN;exact ⟨[], by rw [List.append_nil], fun x hx => (by cases hx), rfl, hm⟩
  by_cases c1 : x.ind ≠ i
  ·rw [if_pos c1] at h
   exact stop h
  rw [if_neg c1] at h;rcases hi : itemB x.text with _ | ⟨rest, k⟩
  ·rw [hi] at h
   exact stop h
  rw [hi] at h;simp only at h;rcases hr : itemJ n i d x r rest k m with f | ⟨u, L1, m1⟩
  ·rw [hr] at h; cases h
  rw [hr] at h;simp only at h
  have hv : ∀ N, N + (d + 1) = 11 -> VOk N (d + 1) u /\ m1 = m + sizeT N u /\ m1 <= 300 := by
   unfold itemJ at hr;by_cases c2 : k = 0
   ·rw [if_pos c2] at hr
    exact readK_ok n (.below i (d + 1) x.at') _ _ _ _ _ hr hm
   ·rw [if_neg c2] at hr
    exact readK_ok n (.value (d + 1)) _ _ _ _ _ hr hm
  intro N hN;obtain ⟨v1, v2, v3⟩ := hv N (by omega);obtain ⟨more, g1, g2, g3, g4⟩ := readK_ok n _ _ _ _ _ _ h v3 N hN;refine ⟨u :: more, by rw [g1, List.append_assoc]; rfl, fun y hy => ?_, ?_, g4⟩
  ·rcases List.mem_cons.1 hy with rfl | hy
   ·exact v1
   ·exact g2 y hy
  ·simp only [szL]; omega
 | n + 1, .pairs i d ks acc, [], m, t, L', m', h, hm => by
  cases h
  intro N hN g1 g2 g3 g4;exact ⟨ks, acc, rfl, g1, g2, g3, g4, rfl, hm⟩
 | n + 1, .pairs i d ks acc, x :: r, m, t, L', m', h, hm => by
  rw [readK_pairs] at h
  have stop : ∀ {t L' m'}, ResI.good (tMap ks acc) (x :: r) m = .good t L' m' -> JobIOk (.pairs i d ks acc) m t m' := fun e => by
   cases e
   intro N hN g1 g2 g3 g4;exact ⟨ks, acc, rfl, g1, g2, g3, g4, rfl, hm⟩
  by_cases c1 : x.ind ≠ i ∨ (itemB x.text).isSome = true
  ·rw [if_pos c1] at h
   exact stop h
  rw [if_neg c1] at h;rcases hi : keyB x.text with _ | ⟨key, rest⟩
  ·rw [hi] at h
   exact stop h
  rw [hi] at h;simp only at h;by_cases c2 : 400 < key.size
  ·rw [if_pos c2] at h; cases h
  rw [if_neg c2] at h;by_cases c3 : ks.contains key = true
  ·rw [if_pos c3] at h; cases h
  rw [if_neg c3] at h;rcases hr : pairJ n i d x r rest m with f | ⟨u, L1, m1⟩
  ·rw [hr] at h; cases h
  rw [hr] at h;simp only at h;have hst := key_str' hi c2
  have hv : ∀ N, N + (d + 1) = 11 -> VOk N (d + 1) u /\ m1 = m + sizeT N u /\ m1 <= 300 := by
   unfold pairJ at hr;by_cases c4 : rest.size = 0
   ·rw [if_pos c4] at hr
    exact readK_ok n (.below i (d + 1) x.at') _ _ _ _ _ hr hm
   ·rw [if_neg c4] at hr
    rcases hb : beginF (d + 1) m x.at' with _ | f
    ·rw [hb] at hr
     obtain ⟨hd, hm3⟩ := begin_none hb;simp only at hr;rcases hs : scalB rest with _ | v
     ·rw [hs] at hr; cases hr
     ·rw [hs] at hr
      cases hr
      intro N hN;obtain ⟨N, rfl⟩ : ∃ M, N = M + 1 := ⟨N - 1, by omega⟩
      have h1 := scal_ok hs (N := N) hd;exact ⟨h1.1, by rw [h1.2], by omega⟩
    ·rw [hb] at hr; cases hr
  intro N hN hlen hso hks hacc;obtain ⟨v1, v2, v3⟩ := hv N (by omega);have hle := posK_le ks key;have hno : hasS ks key = false := by rw [<- contains_hasS]; simpa using c3
  have i1 : (insL ks (posK ks key) key).length = (insL acc (posK ks key) u).length := by rw [ins_len hle, ins_len (by omega), hlen]
  have i2 := ins_sorted hso hno
  have i3 : ∀ k ∈ insL ks (posK ks key) key, strB k = true := fun k hk => by
   unfold insL at hk;rcases List.mem_append.1 hk with hk | hk
   ·exact hks k (List.mem_of_mem_take hk)
   ·rcases List.mem_cons.1 hk with rfl | hk
    ·exact hst
    ·exact hks k (List.mem_of_mem_drop hk)
  have i4 : ∀ y ∈ insL acc (posK ks key) u, VOk N (d + 1) y := fun y hy => by
   unfold insL at hy;rcases List.mem_append.1 hy with hy | hy
   ·exact hacc y (List.mem_of_mem_take hy)
   ·rcases List.mem_cons.1 hy with rfl | hy
    ·exact v1
    ·exact hacc y (List.mem_of_mem_drop hy)
  have z2 := szL_ins (sizeT N) acc (posK ks key) u;obtain ⟨ks', l', g1, g2, g3, g4, g5, g6, g7⟩ := readK_ok n _ _ _ _ _ _ h v3 N hN i1 i2 i3 i4;exact ⟨ks', l', g1, g2, g3, g4, g5, by omega, g7⟩
def headItem (i : Nat) : List LineD -> Bool
 | [] => false
 | x :: _ => decide (x.ind = i) && (itemB x.text).isSome
def headKey (i : Nat) : List LineD -> Bool
 | [] => false
 | x :: _ => decide (x.ind = i) && !(itemB x.text).isSome && (keyB x.text).isSome
def Less (j : JobI) (L L' : List LineD) : Prop := costL L' <= costL L /\ match j with
 | .value _ => costL L' + 3 <= costL L
 | .below _ _ _ => True
 | .list i _ _ => headItem i L = true -> costL L' + 3 <= costL L
 | .pairs i _ _ _ => headKey i L = true -> costL L' + 3 <= costL L
theorem cost_cons (x : LineD) (l : List LineD) : costL (x :: l) = (x.text.size + 3) + costL l := rfl
theorem readK_less : ∀ (n : Nat) (j : JobI) (L : List LineD) (m : Nat) (t : TreeD) (L' : List LineD) (m' : Nat), readK n j L m = .good t L' m' -> Less j L L'
 | 0, j, L, m, t, L', m', h => by cases h
 | n + 1, .value d, [], m, t, L', m', h => by cases h
 | n + 1, .value d, x :: r, m, t, L', m', h => by
  rw [readK_value] at h;rcases hb : beginF d m x.at' with _ | f
  ·rw [hb] at h
   simp only at h;by_cases c1 : (itemB x.text).isSome = true
   ·rw [if_pos c1] at h
    have g := readK_less n _ _ _ _ _ _ h;have g2 := g.2 (by show (decide (x.ind = x.ind) && (itemB x.text).isSome) = true; rw [c1]; simp);exact ⟨g.1, g2⟩
   rw [if_neg c1] at h;by_cases c2 : (keyB x.text).isSome = true
   ·rw [if_pos c2] at h
    have g := readK_less n _ _ _ _ _ _ h;have g2 := g.2 (by show (decide (x.ind = x.ind) && !(itemB x.text).isSome && (keyB x.text).isSome) = true; rw [c2]; simp at c1; simp [c1]);exact ⟨g.1, g2⟩
   rw [if_neg c2] at h;rcases hs : scalB x.text with _ | u
   ·rw [hs] at h; cases h
   ·rw [hs] at h
    cases h
    unfold Less;rw [cost_cons];exact ⟨by omega, by simp only; omega⟩
  ·rw [hb] at h; cases h
 | n + 1, .below i d a, L, m, t, L', m', h => by
  rw [readK_below] at h;by_cases c : below? i L = true
  ·rw [if_pos c] at h
   exact ⟨(readK_less n (.value d) L m t L' m' h).1, trivial⟩
  ·rw [if_neg c] at h
   rcases hb : beginF d m a with _ | f
   ·rw [hb] at h
    cases h
    exact ⟨Nat.le_refl _, trivial⟩
   ·rw [hb] at h; cases h
 | n + 1, .list i d acc, [], m, t, L', m', h => by
  cases h
  exact ⟨Nat.le_refl _, fun e => by cases e⟩
 | n + 1, .list i d acc, x :: r, m, t, L', m', h => by
  rw [readK_list] at h;by_cases c1 : x.ind ≠ i
  ·rw [if_pos c1] at h
   cases h
   exact ⟨Nat.le_refl _, fun e => by simp [headItem, c1] at e⟩
  rw [if_neg c1] at h;rcases hi : itemB x.text with _ | ⟨rest, k⟩
  ·rw [hi] at h
   cases h
   exact ⟨Nat.le_refl _, fun e => by simp [headItem, hi] at e⟩
  rw [hi] at h;simp only at h;rcases hr : itemJ n i d x r rest k m with f | ⟨u, L1, m1⟩
  ·rw [hr] at h; cases h
  rw [hr] at h;simp only at h;have hle := item_le hi
  have hv : costL L1 + 3 <= costL (x :: r) := by
   unfold itemJ at hr;by_cases c2 : k = 0
   ·rw [if_pos c2] at hr
    have := (readK_less n (.below i (d + 1) x.at') _ _ _ _ _ hr).1;rw [cost_cons];omega
   ·rw [if_neg c2] at hr
    have := (readK_less n (.value (d + 1)) _ _ _ _ _ hr).2;simp only [cost_cons] at this;rw [cost_cons];omega
  have g := (readK_less n _ _ _ _ _ _ h).1;exact ⟨by omega, fun _ => by omega⟩
 | n + 1, .pairs i d ks acc, [], m, t, L', m', h => by
  cases h
  exact ⟨Nat.le_refl _, fun e => by cases e⟩
 | n + 1, .pairs i d ks acc, x :: r, m, t, L', m', h => by
  rw [readK_pairs] at h;by_cases c1 : x.ind ≠ i ∨ (itemB x.text).isSome = true
  ·rw [if_pos c1] at h
   cases h
   exact ⟨Nat.le_refl _, fun e => by rcases c1 with c1 | c1 <;> simp [headKey, c1] at e⟩
  rw [if_neg c1] at h;rcases hi : keyB x.text with _ | ⟨key, rest⟩
  ·rw [hi] at h
   cases h
   exact ⟨Nat.le_refl _, fun e => by simp [headKey, hi] at e⟩
  rw [hi] at h;simp only at h;by_cases c2 : 400 < key.size
  ·rw [if_pos c2] at h; cases h
  rw [if_neg c2] at h;by_cases c3 : ks.contains key = true
  ·rw [if_pos c3] at h; cases h
  rw [if_neg c3] at h;rcases hr : pairJ n i d x r rest m with f | ⟨u, L1, m1⟩
  ·rw [hr] at h; cases h
  rw [hr] at h;simp only at h
  have hv : costL L1 + 3 <= costL (x :: r) := by
   unfold pairJ at hr;rw [cost_cons];by_cases c4 : rest.size = 0
   ·rw [if_pos c4] at hr
    have := (readK_less n (.below i (d + 1) x.at') _ _ _ _ _ hr).1;omega
   ·rw [if_neg c4] at hr
    rcases hb : beginF (d + 1) m x.at' with _ | f
    ·rw [hb] at hr
     simp only at hr;rcases hs : scalB rest with _ | v
     ·rw [hs] at hr; cases hr
     ·rw [hs] at hr
      cases hr
      omega
    ·rw [hb] at hr; cases hr
  have g := (readK_less n _ _ _ _ _ _ h).1;exact ⟨by omega, fun _ => by omega⟩
def needI (j : JobI) (L : List LineD) : Nat := match j with
 | .value _ => 3 * costL L + 3
 | .below _ _ _ => 3 * costL L + 4
 | .list _ _ _ => 3 * costL L + 2
 | .pairs _ _ _ _ => 3 * costL L + 2
def jobNe (j : JobI) (L : List LineD) : Prop := match j with
 | .value _ => L ≠ []
 | _ => True
theorem below_ne {i : Nat} {L : List LineD} (h : below? i L = true) : L ≠ [] := by
 intro e;rw [e] at h;cases h
theorem readK_code : ∀ (n : Nat) (j : JobI) (L : List LineD) (m : Nat) (f : Flt), readK n j L m = .bad f -> needI j L <= n -> jobNe j L -> f.code ≠ 0
 | 0, j, L, m, f, _, hn, _ => by cases j <;> (unfold needI at hn; simp only at hn; omega)
 | n + 1, .value d, [], m, f, h, _, hne => absurd rfl hne
 | n + 1, .value d, x :: r, m, f, h, hn, _ => by
  rw [readK_value] at h;unfold needI at hn;simp only at hn;rcases hb : beginF d m x.at' with _ | f'
  ·rw [hb] at h
   simp only at h;by_cases c1 : (itemB x.text).isSome = true
   ·rw [if_pos c1] at h
    exact readK_code n _ _ _ _ h (by unfold needI; simp only; omega) trivial
   rw [if_neg c1] at h;by_cases c2 : (keyB x.text).isSome = true
   ·rw [if_pos c2] at h
    exact readK_code n _ _ _ _ h (by unfold needI; simp only; omega) trivial
   rw [if_neg c2] at h;rcases hs : scalB x.text with _ | u
   ·rw [hs] at h
    cases h
    show (4 : Int) ≠ 0
    decide
   ·rw [hs] at h; cases h
  ·rw [hb] at h
   cases h
   exact begin_code hb
 | n + 1, .below i d a, L, m, f, h, hn, _ => by
  rw [readK_below] at h;unfold needI at hn;simp only at hn;by_cases c : below? i L = true
  ·rw [if_pos c] at h
   exact readK_code n (.value d) L m f h (by unfold needI; simp only; omega) (below_ne c)
  ·rw [if_neg c] at h
   rcases hb : beginF d m a with _ | f'
   ·rw [hb] at h; cases h
   ·rw [hb] at h
    cases h
    exact begin_code hb
 | n + 1, .list i d acc, [], m, f, h, _, _ => by cases h
 | n + 1, .list i d acc, x :: r, m, f, h, hn, _ => by
  rw [readK_list] at h;unfold needI at hn;simp only at hn;by_cases c1 : x.ind ≠ i
  ·rw [if_pos c1] at h; cases h
  rw [if_neg c1] at h;rcases hi : itemB x.text with _ | ⟨rest, k⟩
  ·rw [hi] at h; cases h
  rw [hi] at h;simp only at h;rw [cost_cons] at hn;rcases hr : itemJ n i d x r rest k m with f' | ⟨u, L1, m1⟩
  ·rw [hr] at h
   cases h
   unfold itemJ at hr;by_cases c2 : k = 0
   ·rw [if_pos c2] at hr
    exact readK_code n _ _ _ _ hr (by unfold needI; simp only; omega) trivial
   ·rw [if_neg c2] at hr
    have := item_more hi c2;exact readK_code n _ _ _ _ hr (by unfold needI; simp only [cost_cons]; omega) (fun e => by cases e)
  ·rw [hr] at h
   simp only at h;have hle := item_le hi
   have hv : costL L1 + 3 <= (x.text.size + 3) + costL r := by
    unfold itemJ at hr;by_cases c2 : k = 0
    ·rw [if_pos c2] at hr
     have := (readK_less n (.below i (d + 1) x.at') _ _ _ _ _ hr).1;omega
    ·rw [if_neg c2] at hr
     have := (readK_less n (.value (d + 1)) _ _ _ _ _ hr).2;simp only [cost_cons] at this;omega
   exact readK_code n _ _ _ _ h (by unfold needI; simp only; omega) trivial
 | n + 1, .pairs i d ks acc, [], m, f, h, _, _ => by cases h
 | n + 1, .pairs i d ks acc, x :: r, m, f, h, hn, _ => by
  rw [readK_pairs] at h;unfold needI at hn;simp only at hn;by_cases c1 : x.ind ≠ i ∨ (itemB x.text).isSome = true
  ·rw [if_pos c1] at h; cases h
  rw [if_neg c1] at h;rcases hi : keyB x.text with _ | ⟨key, rest⟩
  ·rw [hi] at h; cases h
  rw [hi] at h;simp only at h;rw [cost_cons] at hn;by_cases c2 : 400 < key.size
  ·rw [if_pos c2] at h
   cases h
   show (8 : Int) ≠ 0
   decide
  rw [if_neg c2] at h;by_cases c3 : ks.contains key = true
  ·rw [if_pos c3] at h
   cases h
   show (5 : Int) ≠ 0
   decide
  rw [if_neg c3] at h;rcases hr : pairJ n i d x r rest m with f' | ⟨u, L1, m1⟩
  ·rw [hr] at h
   cases h
   unfold pairJ at hr;by_cases c4 : rest.size = 0
   ·rw [if_pos c4] at hr
    exact readK_code n _ _ _ _ hr (by unfold needI; simp only; omega) trivial
   ·rw [if_neg c4] at hr
    rcases hb : beginF (d + 1) m x.at' with _ | f'
    ·rw [hb] at hr
     simp only at hr;rcases hs : scalB rest with _ | v
     ·rw [hs] at hr
      cases hr
      show (4 : Int) ≠ 0
      decide
     ·rw [hs] at hr; cases hr
    ·rw [hb] at hr
     cases hr
     exact begin_code hb
  ·rw [hr] at h
   simp only at h
   have hv : costL L1 <= costL r := by
    unfold pairJ at hr;by_cases c4 : rest.size = 0
    ·rw [if_pos c4] at hr
     exact (readK_less n (.below i (d + 1) x.at') _ _ _ _ _ hr).1
    ·rw [if_neg c4] at hr
     rcases hb : beginF (d + 1) m x.at' with _ | f'
     ·rw [hb] at hr
      simp only at hr;rcases hs : scalB rest with _ | v
      ·rw [hs] at hr; cases hr
      ·rw [hs] at hr
       cases hr
       exact Nat.le_refl _
     ·rw [hb] at hr; cases hr
   exact readK_code n _ _ _ _ h (by unfold needI; simp only; omega) trivial
theorem readIn_ok {s : ByteArray} (h : (readIn s).1.code = 0) : okT 10 (readIn s).2 = true /\ numT 10 (readIn s).2 := by
 unfold readIn at h ⊢;by_cases c1 : (linesF s).2.code ≠ 0
 ·rw [if_pos c1] at h
  exact absurd h c1
 rw [if_neg c1] at h ⊢;rcases hL : (linesF s).1 with _ | ⟨x, r⟩
 ·rw [hL] at h
  exact absurd (show (4 : Int) = 0 from h) (by decide)
 rw [hL] at h;simp only at h ⊢;by_cases c2 : x.ind ≠ 0
 ·rw [if_pos c2] at h
  exact absurd (show (4 : Int) = 0 from h) (by decide)
 rw [if_neg c2] at h ⊢;rcases hq : readK (3 * costL (x :: r) + 3) (.value 1) (x :: r) 0 with f | ⟨t, L', m'⟩
 ·rw [hq] at h
  exact absurd h (readK_code _ _ _ _ _ hq (Nat.le_refl _) (fun e => by cases e))
 ·rw [hq] at h
  cases L' with
  | nil =>
   simp only;obtain ⟨v1, v2, v3⟩ := readK_ok _ _ _ _ _ _ _ hq (by omega) 10 rfl;have hdeep := v1.deep;refine ⟨?_, v1.num⟩;unfold okT;rw [v1.shape, decide_eq_true (by omega), decide_eq_true (by omega)];rfl
  | cons y L'' => exact absurd (show (4 : Int) = 0 from h) (by decide)
def InAt (ty : TypeId) (b g N cap : Nat) (L : List LineD) (m : Nat) (f : Flt) (w : World) : Prop :=
 ∃ (p : Nat) (cur : Array Value), p + L.length = N /\ N <= cap /\ N <= 20001 /\ g ≠ b /\
  w.heap[b]? = some (.cells #[.slice (some ⟨g, 0, none⟩) N cap, .int .i64 p, .int .i64 m, .int .i64 f.code, .int .i64 f.at', .string f.path] ty (0, 0)) /\
  w.heap[g]? = some (.cells cur 59 (0, 0)) /\
  ∀ i x, L[i]? = some x -> cur[(p + i) * 3]? = some (.int .i64 (x.ind : Nat)) /\ cur[(p + i) * 3 + 1]? = some (.string x.text) /\ cur[(p + i) * 3 + 2]? = some (.int .i64 (x.at' : Nat))
def endOk (s : ByteArray) : Prop := 0 < s.size /\ byteI s (s.size - 1) ≠ 32
def LnOk (x : LineD) : Prop := x.ind + x.text.size <= 20000 /\ x.at' <= 20001 /\ endOk x.text
def InOk (L : List LineD) : Prop := ∀ x ∈ L, LnOk x
theorem InOk.tail {x : LineD} {r : List LineD} (h : InOk (x :: r)) : InOk r := fun y hy => h y (List.mem_cons_of_mem _ hy)
theorem InOk.head {x : LineD} {r : List LineD} (h : InOk (x :: r)) : LnOk x := h x List.mem_cons_self
theorem InOk.cons {x : LineD} {r : List LineD} (h : InOk r) (h1 : LnOk x) : InOk (x :: r) := fun y hy => by
 rcases List.mem_cons.1 hy with rfl | hy
 ·exact h1
 ·exact h y hy
theorem drop_all (a : UInt8) : ∀ (l : List UInt8), l.dropWhile (· == a) = [] -> ∀ c ∈ l, c = a
 | [], _, c, hc => by cases hc
 | x :: l, h, c, hc => by
  rw [List.dropWhile_cons] at h;by_cases e : (x == a) = true
  ·rw [if_pos e] at h
   rcases List.mem_cons.1 hc with rfl | hc
   ·exact beq_iff_eq.1 e
   ·exact drop_all a l h c hc
  ·rw [if_neg e] at h; cases h
theorem tail_end {s : ByteArray} {i : Nat} (h : endOk s) (hi : i < s.size) : endOk (tailL s i) /\ (tailL s i).size <= s.size - i := by
 obtain ⟨h0, h1⟩ := h;have hl := trimL_len (s.data.toList.drop i) 32;rw [List.length_drop, list_size] at hl;have hz : (tailL s i).size = (trimLeftB (s.data.toList.drop i) 32).length := size_mk _;have hsuf : trimLeftB (s.data.toList.drop i) 32 = (s.data.toList.drop i).drop ((s.data.toList.drop i).length - (trimLeftB (s.data.toList.drop i) 32).length) := trim_drop _ _;have hlast : s.data.toList[s.size - 1]? = some (s.get! (s.size - 1)) := byte_list (by omega)
 have hpos : 0 < (tailL s i).size := by
  rcases Nat.eq_zero_or_pos (tailL s i).size with e | e
  ·exfalso
   have hnil : trimLeftB (s.data.toList.drop i) 32 = [] := List.eq_nil_of_length_eq_zero (by omega)
   have hall : ∀ c ∈ s.data.toList.drop i, c = 32 := by
    intro c hc;unfold trimLeftB at hnil;exact drop_all _ _ hnil c hc
   have hm : s.get! (s.size - 1) ∈ s.data.toList.drop i := by
    refine List.mem_of_getElem? (i := s.size - 1 - i) ?_;rw [List.getElem?_drop, show i + (s.size - 1 - i) = s.size - 1 by omega];exact hlast
   have := hall _ hm;apply h1;unfold byteI;rw [this];rfl
  ·exact e
 refine ⟨⟨hpos, fun e => h1 ?_⟩, by omega⟩;have hb : (tailL s i).data.toList[(tailL s i).size - 1]? = some ((tailL s i).get! ((tailL s i).size - 1)) := byte_list (by omega);have e2 : (tailL s i).data.toList = trimLeftB (s.data.toList.drop i) 32 := rfl;rw [e2, hsuf, List.drop_drop, List.getElem?_drop, List.length_drop, list_size, <- hz] at hb;rw [show i + (s.size - i - (tailL s i).size) + ((tailL s i).size - 1) = s.size - 1 by omega, hlast] at hb
 unfold byteI at e ⊢;rw [<- Option.some.inj hb] at e;exact e
theorem item_rest {s rest : ByteArray} {k : Nat} (h : itemB s = some (rest, k)) (he : endOk s) : (k = 0 /\ rest = ⟨#[]⟩) ∨ (2 <= k /\ k + rest.size = s.size /\ endOk rest) := by
 unfold itemB at h;by_cases c1 : s = bs [45]
 ·rw [if_pos c1] at h
  cases h
  exact .inl ⟨rfl, rfl⟩
 ·rw [if_neg c1] at h
  by_cases c2 : 2 <= s.size /\ byteI s 0 = 45 /\ byteI s 1 = 32
  ·rw [if_pos c2] at h
   cases h
   have h3 : 2 < s.size := by
    rcases Nat.lt_or_ge 2 s.size with g | g
    ·exact g
    ·exfalso
     have e : s.size = 2 := by omega
     apply he.2;rw [e];exact c2.2.2
   obtain ⟨g1, g2⟩ := tail_end he h3;exact .inr ⟨by omega, by omega, g1⟩
  ·rw [if_neg c2] at h; cases h
theorem InAt.lt {ty : TypeId} {b g N cap : Nat} {L : List LineD} {m : Nat} {f : Flt} {w : World} (h : InAt ty b g N cap L m f w) : b < w.heap.size /\ g < w.heap.size := by
 obtain ⟨p, cur, -, -, -, -, h1, h2, -⟩ := h;exact ⟨row_lt h1, row_lt h2⟩
theorem InAt.carry {ty : TypeId} {b g N cap : Nat} {L : List LineD} {m : Nat} {f : Flt} {w w' : World} (h : InAt ty b g N cap L m f w) (hb : w'.heap[b]? = w.heap[b]?) (hg : w'.heap[g]? = w.heap[g]?) : InAt ty b g N cap L m f w' := by
 obtain ⟨p, cur, h1, h2, h3, h4, h5, h6, h7⟩ := h;exact ⟨p, cur, h1, h2, h3, h4, hb.trans h5, hg.trans h6, h7⟩
theorem InAt.below {ty : TypeId} {b g N cap : Nat} {L : List LineD} {m : Nat} {f : Flt} {w w' : World} (h : InAt ty b g N cap L m f w) (hb : Below w.heap.size w w') : InAt ty b g N cap L m f w' :=
 h.carry (hb.block b h.lt.1) (hb.block g h.lt.2)
theorem InAt.past {ty : TypeId} {b g N cap : Nat} {L : List LineD} {m : Nat} {f : Flt} {w w' : World} {S : Nat -> Prop} (h : InAt ty b g N cap L m f w) (hF : Aside S w w') (hb : ¬ S b) (hg : ¬ S g) : InAt ty b g N cap L m f w' :=
 h.carry (hF.block b h.lt.1 hb) (hF.block g h.lt.2 hg)
structure BoxIn (ty : TypeId) (b g N cap p : Nat) (L : List LineD) (m : Nat) (f : Flt) (w : World) : Prop where
 pos : p + L.length = N
 cap' : N <= cap
 small : N <= 20001
 ne : g ≠ b
 row : w.heap[b]? = some (.cells #[.slice (some ⟨g, 0, none⟩) N cap, .int .i64 p, .int .i64 m, .int .i64 f.code, .int .i64 f.at', .string f.path] ty (0, 0))
 lines : g < w.heap.size
 line : ∀ x r, L = x :: r -> w.cell? ⟨g, p * 3, none⟩ = some (.int .i64 (x.ind : Nat)) /\ w.cell? ⟨g, p * 3 + 1, none⟩ = some (.string x.text) /\ w.cell? ⟨g, p * 3 + 2, none⟩ = some (.int .i64 (x.at' : Nat)) /\ ∀ o, w.frozen? ⟨g, o, none⟩ = false
theorem InAt.open {ty : TypeId} {b g N cap : Nat} {L : List LineD} {m : Nat} {f : Flt} {w : World} (h : InAt ty b g N cap L m f w) : ∃ p, BoxIn ty b g N cap p L m f w := by
 obtain ⟨p, cur, h1, h2, h3, h4, h5, h6, h7⟩ := h;refine ⟨p, h1, h2, h3, h4, h5, row_lt h6, fun x r hx => ?_⟩;obtain ⟨e1, e2, e3⟩ := h7 0 x (by rw [hx]; rfl);rw [Nat.add_zero] at e1 e2 e3;exact ⟨by rw [cell_of_row _ _ _ _ _ _ h6]; exact e1, by rw [cell_of_row _ _ _ _ _ _ h6]; exact e2, by rw [cell_of_row _ _ _ _ _ _ h6]; exact e3, fun o => frozen_row h6 o⟩
theorem InAt.turn {ty : TypeId} {b g N cap : Nat} {L L' : List LineD} {m m' : Nat} {f f' : Flt} {w w' : World} (h : InAt ty b g N cap L m f w) (hF : Aside (fun q => q = b) w w') (hL : L' = L ∨ ∃ x, L = x :: L')
  (hr : ∀ p p' : Nat, p + L.length = N -> p' + L'.length = N -> w.heap[b]? = some (.cells #[.slice (some ⟨g, 0, none⟩) N cap, .int .i64 p, .int .i64 m, .int .i64 f.code, .int .i64 f.at', .string f.path] ty (0, 0)) ->
   w'.heap[b]? = some (.cells #[.slice (some ⟨g, 0, none⟩) N cap, .int .i64 p', .int .i64 m', .int .i64 f'.code, .int .i64 f'.at', .string f'.path] ty (0, 0))) : InAt ty b g N cap L' m' f' w' := by
 obtain ⟨p, cur, h1, h2, h3, h4, h5, h6, h7⟩ := h;rcases hL with rfl | ⟨x, rfl⟩
 ·exact ⟨p, cur, h1, h2, h3, h4, hr p p h1 h1 h5, (hF.block g (row_lt h6) h4).trans h6, h7⟩
 ·have e : (p + 1) + L'.length = N := by rw [List.length_cons] at h1; omega
  refine ⟨p + 1, cur, e, h2, h3, h4, hr p (p + 1) h1 e h5, (hF.block g (row_lt h6) h4).trans h6, fun i y hy => ?_⟩;have := h7 (i + 1) y (by rw [List.getElem?_cons_succ]; exact hy);rw [show p + 1 + i = p + (i + 1) by omega];exact this
theorem InAt.tellI {ty : TypeId} {b g N cap p : Nat} {x : LineD} {r : List LineD} {m k : Nat} {f : Flt} {w : World} {z : Int} (h : InAt ty b g N cap (x :: r) m f w) (hp : p + (x :: r).length = N) (hz : z = (k : Nat)) :
  InAt ty b g N cap (⟨k, x.text, x.at'⟩ :: r) m f (w.setCell ⟨g, p * 3, none⟩ (.int .i64 z)) := by
 subst hz;obtain ⟨p', cur, h1, h2, h3, h4, h5, h6, h7⟩ := h;obtain rfl : p' = p := by omega
 have k1 := heap_setCell_same w g (p' * 3) _ _ (.int .i64 (k : Nat)) h6;obtain ⟨e1, e2, e3⟩ := h7 0 x rfl;rw [Nat.add_zero] at e1 e2 e3;obtain ⟨l1, -⟩ := Array.getElem?_eq_some_iff.1 e1;refine ⟨p', _, h1, h2, h3, h4, ?_, k1, fun i y hy => ?_⟩
 ·rw [Below.heap_setCell _ _ _ _ (fun e => h4 e.symm)]
  exact h5
 ·rcases i with _ | i
  ·rw [List.getElem?_cons_zero] at hy
   cases hy
   rw [show p' + 0 = p' from rfl];exact ⟨Array.getElem?_setIfInBounds_self_of_lt l1, by rw [Array.getElem?_setIfInBounds_ne (by omega)]; exact e2, by rw [Array.getElem?_setIfInBounds_ne (by omega)]; exact e3⟩
  ·have := h7 (i + 1) y (by rw [List.getElem?_cons_succ] at hy ⊢; exact hy)
   exact ⟨by rw [Array.getElem?_setIfInBounds_ne (by omega)]; exact this.1, by rw [Array.getElem?_setIfInBounds_ne (by omega)]; exact this.2.1, by rw [Array.getElem?_setIfInBounds_ne (by omega)]; exact this.2.2⟩
theorem InAt.tellT {ty : TypeId} {b g N cap p : Nat} {x : LineD} {r : List LineD} {m : Nat} {t : ByteArray} {f : Flt} {w : World} (h : InAt ty b g N cap (x :: r) m f w) (hp : p + (x :: r).length = N) :
  InAt ty b g N cap (⟨x.ind, t, x.at'⟩ :: r) m f (w.setCell ⟨g, p * 3 + 1, none⟩ (.string t)) := by
 obtain ⟨p', cur, h1, h2, h3, h4, h5, h6, h7⟩ := h;obtain rfl : p' = p := by omega
 have k1 := heap_setCell_same w g (p' * 3 + 1) _ _ (.string t) h6;obtain ⟨e1, e2, e3⟩ := h7 0 x rfl;rw [Nat.add_zero] at e1 e2 e3;obtain ⟨l2, -⟩ := Array.getElem?_eq_some_iff.1 e2;refine ⟨p', _, h1, h2, h3, h4, ?_, k1, fun i y hy => ?_⟩
 ·rw [Below.heap_setCell _ _ _ _ (fun e => h4 e.symm)]
  exact h5
 ·rcases i with _ | i
  ·rw [List.getElem?_cons_zero] at hy
   cases hy
   rw [show p' + 0 = p' from rfl];exact ⟨by rw [Array.getElem?_setIfInBounds_ne (by omega)]; exact e1, Array.getElem?_setIfInBounds_self_of_lt l2, by rw [Array.getElem?_setIfInBounds_ne (by omega)]; exact e3⟩
  ·have := h7 (i + 1) y (by rw [List.getElem?_cons_succ] at hy ⊢; exact hy)
   exact ⟨by rw [Array.getElem?_setIfInBounds_ne (by omega)]; exact this.1, by rw [Array.getElem?_setIfInBounds_ne (by omega)]; exact this.2.1, by rw [Array.getElem?_setIfInBounds_ne (by omega)]; exact this.2.2⟩
def failF (f : Flt) (code : Int) (a : Nat) : Flt := if f.code = 0 then fltA code a else f
def hereB (f : Flt) (L : List LineD) (i : Nat) : Bool := decide (f.code = 0) && (match L with | [] => false | x :: _ => decide (x.ind = i))
def beginX (d m a : Nat) : Flt := (beginF d m a).getD flt0
theorem set6f {w : World} {b : Nat} {a0 a1 a2 a3 a4 a5 v3 v4 v5 : Value} {e : TypeId} (h : w.heap[b]? = some (.cells #[a0, a1, a2, a3, a4, a5] e (0, 0))) : (((w.setCell ⟨b, 3, none⟩ v3).setCell ⟨b, 4, none⟩ v4).setCell ⟨b, 5, none⟩ v5).heap[b]? = some (.cells #[a0, a1, a2, v3, v4, v5] e (0, 0)) :=
 heap_setCell_same _ b 5 _ _ v5 (heap_setCell_same _ b 4 _ _ v4 (heap_setCell_same w b 3 _ _ v3 h))
theorem set6m {w : World} {b : Nat} {a0 a1 a2 a3 a4 a5 v : Value} {e : TypeId} (h : w.heap[b]? = some (.cells #[a0, a1, a2, a3, a4, a5] e (0, 0))) : (w.setCell ⟨b, 2, none⟩ v).heap[b]? = some (.cells #[a0, a1, v, a3, a4, a5] e (0, 0)) := heap_setCell_same w b 2 _ _ v h
theorem set6p {w : World} {b : Nat} {a0 a1 a2 a3 a4 a5 v : Value} {e : TypeId} (h : w.heap[b]? = some (.cells #[a0, a1, a2, a3, a4, a5] e (0, 0))) : (w.setCell ⟨b, 1, none⟩ v).heap[b]? = some (.cells #[a0, v, a2, a3, a4, a5] e (0, 0)) := heap_setCell_same w b 1 _ _ v h
theorem c_in_fail (b g N cap : Nat) (L : List LineD) (m : Nat) (f : Flt) (code : Int) (a : Nat) (w : World) (h : InAt 61 b g N cap L m f w) :
  Calls Tryz.prog 52 #[.pointer (some ⟨b, 0, none⟩), .int .i64 code, .int .i64 a] w fun e w' => e = .returned (.tuple #[]) /\ InAt 61 b g N cap L m (failF f code a) w' /\ Aside (fun q => q = b) w w' := by
 have H := hid h;obtain ⟨p, hb⟩ := h.open;obtain ⟨a0, a1, a2, a3, a4, a5, af⟩ := row6 hb.row;have l0 := row_lt hb.row;obtain ⟨z, hz⟩ : ∃ z, z = f.code := ⟨_, rfl⟩
 rw [<- hz] at a3;have HZ := hid hz;clear hb hz h;by_cases hc : z = 0
 ·have d1 : (z == 0) = true := beq_iff_eq.2 hc
  have hF : Aside (fun q => q = b) w (((w.setCell ⟨b, 3, none⟩ (.int .i64 code)).setCell ⟨b, 4, none⟩ (.int .i64 a)).setCell ⟨b, 5, none⟩ (.string ⟨#[]⟩)) := aside_set rfl (aside_set rfl (aside_set rfl (Aside.refl _ _)))
  have hR := InAt.turn (L' := L) (m' := m) (f' := fltA code a) H.out hF (.inl rfl) (fun p p' h1 h2 hrow => by
   obtain rfl : p' = p := by omega
   exact set6f hrow)
  have HR := hid (And.intro hR hF);have HE : Hid (failF f code a = fltA code a) := hid (if_pos (HZ.out.symm.trans hc));obtain rfl := hc;clear hR hF d1;go_enter Tryz.func52, Tryz.ntmps52
  go_wp2_with fail
  exact bodyPost_end (v := .tuple #[]) (by simp only [results, Tryz.results52]; go_simp) rfl ⟨rfl, by rw [HE.out]; exact HR.out.1, HR.out.2⟩
 ·have d1 : (z == 0) = false := beq_eq_false_iff_ne.2 hc
  have HE : Hid (failF f code a = f) := hid (if_neg (fun e => hc (HZ.out.trans e)));clear hc;go_enter Tryz.func52, Tryz.ntmps52
  go_wp2_with fail
  exact bodyPost_end (v := .tuple #[]) (by simp only [results, Tryz.results52]; go_simp) rfl ⟨rfl, by rw [HE.out]; exact H.out, Aside.refl _ _⟩
theorem c_in_here (b g N cap : Nat) (L : List LineD) (m i : Nat) (f : Flt) (w : World) (h : InAt 61 b g N cap L m f w) :
  Calls Tryz.prog 178 #[.pointer (some ⟨b, 0, none⟩), .int .i64 i] w fun e w' => e = .returned (.bool (hereB f L i)) /\ Below w.heap.size w w' := by
 obtain ⟨p, hb⟩ := h.open;have hpos := hb.pos;have hsm := hb.small;have hcp := hb.cap';have hln := hb.lines;have HLn := hid hb.line;obtain ⟨a0, a1, a2, a3, a4, a5, af⟩ := row6 hb.row;have l0 := row_lt hb.row;obtain ⟨z, hz⟩ : ∃ z, z = f.code := ⟨_, rfl⟩
 rw [<- hz] at a3;obtain ⟨r, hr⟩ : ∃ r, r = hereB f L i := ⟨_, rfl⟩
 rw [<- hr];have HR := hid hr;have HZ := hid hz;clear hb h hr hz;by_cases hc : z = 0
 rotate_left
 ·have d1 : (z == 0) = false := beq_eq_false_iff_ne.2 hc
  have HE : Hid (r = false) := hid (by rw [HR.out]; unfold hereB; rw [decide_eq_false (fun e => hc (HZ.out.trans e))]; rfl);clear hc;go_enter Tryz.func178, Tryz.ntmps178
  go_wp2_with fail
  refine wp_region_det 33 (by kernel_rfl) (by kernel_rfl) (by decide) ?_
  iterate 33 (apply Exists.intro; refine And.intro ?_ ?_; (focus (intro W hW; (try simp only [Act.put, List.setIfInBounds_toArray, List.set_cons_zero, List.set_cons_succ]); first | (exact wpList_skip rfl ⟨rfl, rfl, Below.refl _ _⟩) | (obtain ⟨hcW, hfW⟩ := bcell hW; have hsW := hW.size; (try simp at hsW); (try have hsW0 := lt_of_succ_le hsW); (try (have hsW1 := lt_pred hsW; (try (have hsW2 := lt_pred hsW1)))); go_wp2_with fail; exact ⟨rfl, rfl, bel⟩))))
  intro wd hbwd
  (try simp only [Act.put, List.setIfInBounds_toArray, List.set_cons_zero, List.set_cons_succ])
  (try simp only [List.drop_succ_cons, List.drop_zero])
  go_wp2_with fail
  go_ret
  exact ⟨by rw [HE.out]; rfl, hbwd⟩
 have d1 : (z == 0) = true := beq_iff_eq.2 hc;have hfz : decide (f.code = 0) = true := decide_eq_true (HZ.out.symm.trans hc);rcases L with _ | ⟨x, L⟩
 ·have HE : Hid (r = false) := hid (by rw [HR.out]; unfold hereB; rw [hfz]; rfl)
  have d2 : decide ((p : Int) < N) = false := decide_eq_false (by simp at hpos; omega);have d3 : decide (p < N) = false := decide_eq_false (by simp at hpos; omega);obtain rfl := hc;clear d1 hpos HR hfz HLn;go_enter Tryz.func178, Tryz.ntmps178
  go_wp2_with fail
  refine wp_region_det 33 (by kernel_rfl) (by kernel_rfl) (by decide) ?_
  iterate 33 (apply Exists.intro; refine And.intro ?_ ?_; (focus (intro W hW; (try simp only [Act.put, List.setIfInBounds_toArray, List.set_cons_zero, List.set_cons_succ]); first | (exact wpList_skip rfl ⟨rfl, rfl, Below.refl _ _⟩) | (obtain ⟨hcW, hfW⟩ := bcell hW; have hsW := hW.size; (try simp at hsW); (try have hsW0 := lt_of_succ_le hsW); (try (have hsW1 := lt_pred hsW; (try (have hsW2 := lt_pred hsW1)))); go_wp2_with fail; exact ⟨rfl, rfl, bel⟩))))
  intro wd hbwd
  (try simp only [Act.put, List.setIfInBounds_toArray, List.set_cons_zero, List.set_cons_succ])
  (try simp only [List.drop_succ_cons, List.drop_zero])
  go_wp2_with fail
  go_ret
  exact ⟨by rw [HE.out]; rfl, hbwd⟩
 ·have HE : Hid (r = decide (x.ind = i)) := hid (by rw [HR.out]; unfold hereB; rw [hfz]; rfl)
  obtain ⟨c0, c1, c2, cf⟩ := HLn.out x L rfl;have hlt : (p : Int) < N := by rw [List.length_cons] at hpos; omega
  have hz0 : (0 : Int) <= p := by omega
  have d2 : decide ((p : Int) < N) = true := decide_eq_true hlt;obtain ⟨k, hk⟩ : ∃ k, k = x.ind := ⟨_, rfl⟩
  rw [<- hk] at c0 HE;obtain rfl := hc;clear d1 hpos HR hfz HLn hk;by_cases hki : k = i
  ·have d4 : ((k : Int) == (i : Int)) = true := beq_iff_eq.2 (by omega)
   have HE2 : Hid (r = true) := hid (by rw [HE.out]; exact decide_eq_true hki);subst hki;go_enter Tryz.func178, Tryz.ntmps178
   go_wp2_with fail
   refine wp_region_det 33 (by kernel_rfl) (by kernel_rfl) (by decide) ?_
   iterate 33 (apply Exists.intro; refine And.intro ?_ ?_; (focus (intro W hW; (try simp only [Act.put, List.setIfInBounds_toArray, List.set_cons_zero, List.set_cons_succ]); first | (exact wpList_skip rfl ⟨rfl, rfl, Below.refl _ _⟩) | (obtain ⟨hcW, hfW⟩ := bcell hW; have hsW := hW.size; (try simp at hsW); (try have hsW0 := lt_of_succ_le hsW); (try (have hsW1 := lt_pred hsW; (try (have hsW2 := lt_pred hsW1)))); go_wp2_with fail; exact ⟨rfl, rfl, bel⟩))))
   intro wd hbwd
   (try simp only [Act.put, List.setIfInBounds_toArray, List.set_cons_zero, List.set_cons_succ])
   (try simp only [List.drop_succ_cons, List.drop_zero])
   go_wp2_with fail
   go_ret
   exact ⟨by rw [HE2.out]; first | rfl | simp, hbwd⟩
  ·have d4 : ((k : Int) == (i : Int)) = false := beq_eq_false_iff_ne.2 (by omega)
   have d5 : (k == i) = false := beq_eq_false_iff_ne.2 hki;have HE2 : Hid (r = false) := hid (by rw [HE.out]; exact decide_eq_false hki);go_enter Tryz.func178, Tryz.ntmps178
   go_wp2_with fail
   refine wp_region_det 33 (by kernel_rfl) (by kernel_rfl) (by decide) ?_
   iterate 33 (apply Exists.intro; refine And.intro ?_ ?_; (focus (intro W hW; (try simp only [Act.put, List.setIfInBounds_toArray, List.set_cons_zero, List.set_cons_succ]); first | (exact wpList_skip rfl ⟨rfl, rfl, Below.refl _ _⟩) | (obtain ⟨hcW, hfW⟩ := bcell hW; have hsW := hW.size; (try simp at hsW); (try have hsW0 := lt_of_succ_le hsW); (try (have hsW1 := lt_pred hsW; (try (have hsW2 := lt_pred hsW1)))); go_wp2_with fail; exact ⟨rfl, rfl, bel⟩))))
   intro wd hbwd
   (try simp only [Act.put, List.setIfInBounds_toArray, List.set_cons_zero, List.set_cons_succ])
   (try simp only [List.drop_succ_cons, List.drop_zero])
   go_wp2_with fail
   go_ret
   exact ⟨by rw [HE2.out]; first | rfl | simp [d5], hbwd⟩
theorem begin_deep {d m a : Nat} (h : 8 < d) : beginX d m a = fltA 6 a := by unfold beginX beginF; rw [if_pos h]; rfl
theorem begin_many {d m a : Nat} (h : ¬ 8 < d) (h2 : 300 <= m) : beginX d m a = fltA 7 a := by unfold beginX beginF; rw [if_neg h, if_pos h2]; rfl
theorem begin_fine {d m a : Nat} (h : ¬ 8 < d) (h2 : ¬ 300 <= m) : beginX d m a = flt0 := by unfold beginX beginF; rw [if_neg h, if_neg h2]; rfl
theorem c_in_begin (b g N cap : Nat) (L : List LineD) (m d a : Nat) (w : World) (h : InAt 61 b g N cap L m flt0 w) (hm : m <= 1000) (hd : d <= 1000) :
  Calls Tryz.prog 100 #[.pointer (some ⟨b, 0, none⟩), .int .i64 d, .int .i64 a] w fun e w' => e = .returned (.tuple #[]) /\ InAt 61 b g N cap L (m + 1) (beginX d m a) w' /\ Aside (fun q => q = b) w w' := by
 have hf1 : ∀ (W : World) (f : Flt) (M : Nat), InAt 61 b g N cap L M f W -> InAt 61 b g N cap L (M + 1) f (W.setCell ⟨b, 2, none⟩ (.int .i64 ((M : Int) + 1))) := fun W f M hW =>
  InAt.turn hW (aside_set rfl (Aside.refl _ _)) (.inl rfl) (fun p p' h1 h2 hrow => by
   obtain rfl : p' = p := by omega
   exact set6m hrow)
 have HF1 := hid hf1;have H := hid h;clear hf1 h;by_cases h8 : (8 : Int) < d
 ·have d8 : decide ((8 : Int) < d) = true := decide_eq_true h8
  have d8' : decide (8 < d) = true := decide_eq_true (by omega);go_enter Tryz.func100, Tryz.ntmps100
  go_wp2_with fail
  refine (c_in_fail b g N cap L m flt0 6 a w H.out).mono ?_;rintro e w1 ⟨rfl, hR1, hA1⟩;have HR1 := hid (show InAt 61 b g N cap L m (fltA 6 a) w1 from hR1);have HA1 := hid hA1;obtain ⟨p, hb⟩ := hR1.open;obtain ⟨a0, a1, a2, a3, a4, a5, af⟩ := row6 hb.row;have l0 := row_lt hb.row;have HR2 := hid (HF1.out w1 _ m HR1.out);have HA2 := hid (HA1.out.trans (aside_set (S := fun q => q = b) (p := ⟨b, 2, none⟩) (u := .int .i64 ((m : Int) + 1)) rfl (Aside.refl _ w1)))
  have HE := hid (begin_deep (m := m) (a := a) (show 8 < d by omega));clear hb hR1 hA1;by_cases h3 : (300 : Int) < (m : Int) + 1
  ·have d3 : decide ((300 : Int) < (m : Int) + 1) = true := decide_eq_true h3
   go_wp2_with fail
   refine (c_in_fail b g N cap L (m + 1) (fltA 6 a) 7 a _ HR2.out).mono ?_;rintro e w3 ⟨rfl, hR3, hA3⟩;have HR3 := hid (show InAt 61 b g N cap L (m + 1) (fltA 6 a) w3 from hR3);have HA3 := hid (HA2.out.trans hA3);clear hR3 hA3;go_wp2_with fail
   exact bodyPost_end (v := .tuple #[]) (by simp only [results, Tryz.results100]; go_simp) rfl ⟨rfl, by rw [HE.out]; exact HR3.out, HA3.out⟩
  ·have d3 : decide ((300 : Int) < (m : Int) + 1) = false := decide_eq_false h3
   go_wp2_with fail
   exact bodyPost_end (v := .tuple #[]) (by simp only [results, Tryz.results100]; go_simp) rfl ⟨rfl, by rw [HE.out]; exact HR2.out, HA2.out⟩
 ·have d8 : decide ((8 : Int) < d) = false := decide_eq_false h8
  have d8' : decide (8 < d) = false := decide_eq_false (by omega);obtain ⟨p, hb⟩ := H.out.open;obtain ⟨a0, a1, a2, a3, a4, a5, af⟩ := row6 hb.row;have l0 := row_lt hb.row;have HR2 := hid (HF1.out w _ m H.out);have HA2 := hid (aside_set (S := fun q => q = b) (p := ⟨b, 2, none⟩) (u := .int .i64 ((m : Int) + 1)) rfl (Aside.refl _ w));clear hb;by_cases h3 : (300 : Int) < (m : Int) + 1
  ·have d3 : decide ((300 : Int) < (m : Int) + 1) = true := decide_eq_true h3
   have HE := hid (begin_many (d := d) (m := m) (a := a) (show ¬ 8 < d by omega) (by omega));go_enter Tryz.func100, Tryz.ntmps100
   go_wp2_with fail
   refine (c_in_fail b g N cap L (m + 1) flt0 7 a _ HR2.out).mono ?_;rintro e w3 ⟨rfl, hR3, hA3⟩;have HR3 := hid (show InAt 61 b g N cap L (m + 1) (fltA 7 a) w3 from hR3);have HA3 := hid (HA2.out.trans hA3);clear hR3 hA3;go_wp2_with fail
   exact bodyPost_end (v := .tuple #[]) (by simp only [results, Tryz.results100]; go_simp) rfl ⟨rfl, by rw [HE.out]; exact HR3.out, HA3.out⟩
  ·have d3 : decide ((300 : Int) < (m : Int) + 1) = false := decide_eq_false h3
   have HE := hid (begin_fine (d := d) (m := m) (a := a) (show ¬ 8 < d by omega) (by omega));go_enter Tryz.func100, Tryz.ntmps100
   go_wp2_with fail
   exact bodyPost_end (v := .tuple #[]) (by simp only [results, Tryz.results100]; go_simp) rfl ⟨rfl, by rw [HE.out]; exact HR2.out, HA2.out⟩
def lenL (L : List LineD) : Nat := L.length
def LessN (j : JobI) (L L' : List LineD) : Prop := lenL L' <= lenL L /\ match j with
 | .value _ => lenL L' + 1 <= lenL L
 | .below _ _ _ => True
 | .list i _ _ => headItem i L = true -> lenL L' + 1 <= lenL L
 | .pairs i _ _ _ => headKey i L = true -> lenL L' + 1 <= lenL L
theorem len_cons (x : LineD) (l : List LineD) : lenL (x :: l) = lenL l + 1 := rfl
theorem readK_len : ∀ (n : Nat) (j : JobI) (L : List LineD) (m : Nat) (t : TreeD) (L' : List LineD) (m' : Nat), readK n j L m = .good t L' m' -> LessN j L L'
 | 0, j, L, m, t, L', m', h => by cases h
 | n + 1, .value d, [], m, t, L', m', h => by cases h
 | n + 1, .value d, x :: r, m, t, L', m', h => by
  rw [readK_value] at h;rcases hb : beginF d m x.at' with _ | f
  ·rw [hb] at h
   simp only at h;by_cases c1 : (itemB x.text).isSome = true
   ·rw [if_pos c1] at h
    have g := readK_len n _ _ _ _ _ _ h;have g2 := g.2 (by show (decide (x.ind = x.ind) && (itemB x.text).isSome) = true; rw [c1]; simp);exact ⟨g.1, g2⟩
   rw [if_neg c1] at h;by_cases c2 : (keyB x.text).isSome = true
   ·rw [if_pos c2] at h
    have g := readK_len n _ _ _ _ _ _ h;have g2 := g.2 (by show (decide (x.ind = x.ind) && !(itemB x.text).isSome && (keyB x.text).isSome) = true; rw [c2]; simp at c1; simp [c1]);exact ⟨g.1, g2⟩
   rw [if_neg c2] at h;rcases hs : scalB x.text with _ | u
   ·rw [hs] at h; cases h
   ·rw [hs] at h
    cases h
    unfold LessN;rw [len_cons];exact ⟨by omega, by simp only; omega⟩
  ·rw [hb] at h; cases h
 | n + 1, .below i d a, L, m, t, L', m', h => by
  rw [readK_below] at h;by_cases c : below? i L = true
  ·rw [if_pos c] at h
   exact ⟨(readK_len n (.value d) L m t L' m' h).1, trivial⟩
  ·rw [if_neg c] at h
   rcases hb : beginF d m a with _ | f
   ·rw [hb] at h
    cases h
    exact ⟨Nat.le_refl _, trivial⟩
   ·rw [hb] at h; cases h
 | n + 1, .list i d acc, [], m, t, L', m', h => by
  cases h
  exact ⟨Nat.le_refl _, fun e => by cases e⟩
 | n + 1, .list i d acc, x :: r, m, t, L', m', h => by
  rw [readK_list] at h;by_cases c1 : x.ind ≠ i
  ·rw [if_pos c1] at h
   cases h
   exact ⟨Nat.le_refl _, fun e => by simp [headItem, c1] at e⟩
  rw [if_neg c1] at h;rcases hi : itemB x.text with _ | ⟨rest, k⟩
  ·rw [hi] at h
   cases h
   exact ⟨Nat.le_refl _, fun e => by simp [headItem, hi] at e⟩
  rw [hi] at h;simp only at h;rcases hr : itemJ n i d x r rest k m with f | ⟨u, L1, m1⟩
  ·rw [hr] at h; cases h
  rw [hr] at h;simp only at h
  have hv : lenL L1 + 1 <= lenL (x :: r) := by
   unfold itemJ at hr;by_cases c2 : k = 0
   ·rw [if_pos c2] at hr
    have := (readK_len n (.below i (d + 1) x.at') _ _ _ _ _ hr).1;rw [len_cons];omega
   ·rw [if_neg c2] at hr
    have := (readK_len n (.value (d + 1)) _ _ _ _ _ hr).2;simp only [len_cons] at this;rw [len_cons];omega
  have g := (readK_len n _ _ _ _ _ _ h).1;exact ⟨by omega, fun _ => by omega⟩
 | n + 1, .pairs i d ks acc, [], m, t, L', m', h => by
  cases h
  exact ⟨Nat.le_refl _, fun e => by cases e⟩
 | n + 1, .pairs i d ks acc, x :: r, m, t, L', m', h => by
  rw [readK_pairs] at h;by_cases c1 : x.ind ≠ i ∨ (itemB x.text).isSome = true
  ·rw [if_pos c1] at h
   cases h
   exact ⟨Nat.le_refl _, fun e => by rcases c1 with c1 | c1 <;> simp [headKey, c1] at e⟩
  rw [if_neg c1] at h;rcases hi : keyB x.text with _ | ⟨key, rest⟩
  ·rw [hi] at h
   cases h
   exact ⟨Nat.le_refl _, fun e => by simp [headKey, hi] at e⟩
  rw [hi] at h;simp only at h;by_cases c2 : 400 < key.size
  ·rw [if_pos c2] at h; cases h
  rw [if_neg c2] at h;by_cases c3 : ks.contains key = true
  ·rw [if_pos c3] at h; cases h
  rw [if_neg c3] at h;rcases hr : pairJ n i d x r rest m with f | ⟨u, L1, m1⟩
  ·rw [hr] at h; cases h
  rw [hr] at h;simp only at h
  have hv : lenL L1 + 1 <= lenL (x :: r) := by
   unfold pairJ at hr;rw [len_cons];by_cases c4 : rest.size = 0
   ·rw [if_pos c4] at hr
    have := (readK_len n (.below i (d + 1) x.at') _ _ _ _ _ hr).1;omega
   ·rw [if_neg c4] at hr
    rcases hb : beginF (d + 1) m x.at' with _ | f
    ·rw [hb] at hr
     simp only at hr;rcases hs : scalB rest with _ | v
     ·rw [hs] at hr; cases hr
     ·rw [hs] at hr
      cases hr
      omega
    ·rw [hb] at hr; cases hr
  have g := (readK_len n _ _ _ _ _ _ h).1;exact ⟨by omega, fun _ => by omega⟩
theorem readK_len_value {n d m m' : Nat} {L L' : List LineD} {t : TreeD} (h : readK n (.value d) L m = .good t L' m') : L'.length < L.length := by
 have := (readK_len n _ _ _ _ _ _ h).2;unfold lenL at this;exact this
theorem readK_len_le {n m m' : Nat} {j : JobI} {L L' : List LineD} {t : TreeD} (h : readK n j L m = .good t L' m') : L'.length <= L.length := by
 have := (readK_len n _ _ _ _ _ _ h).1;unfold lenL at this;exact this
theorem readK_grow {n d m m' : Nat} {L L' : List LineD} {t : TreeD} (h : readK n (.value d) L m = .good t L' m') (hm : m <= 300) (hd : d <= 9) : m + 1 <= m' /\ m' <= 300 := by
 obtain ⟨-, h2, h3⟩ := readK_ok n _ _ _ _ _ _ h hm (11 - d) (by omega);obtain ⟨N, hN⟩ : ∃ N, 11 - d = N + 1 := ⟨10 - d, by omega⟩
 rw [hN] at h2;unfold sizeT at h2;omega
theorem readK_growB {n i d a m m' : Nat} {L L' : List LineD} {t : TreeD} (h : readK n (.below i d a) L m = .good t L' m') (hm : m <= 300) (hd : d <= 9) : m + 1 <= m' /\ m' <= 300 := by
 obtain ⟨-, h2, h3⟩ := readK_ok n _ _ _ _ _ _ h hm (11 - d) (by omega);obtain ⟨N, hN⟩ : ∃ N, 11 - d = N + 1 := ⟨10 - d, by omega⟩
 rw [hN] at h2;unfold sizeT at h2;omega
def TreeV (cs : List Value) : Prop := ∃ (k : Int) (fl : Bool) (nu : Int) (t : ByteArray) (A4 : Option Addr) (n4 c4 : Nat) (A5 : Option Addr) (n5 c5 : Nat), cs = [.int .i64 k, .bool fl, .int .i64 nu, .string t, .slice A4 n4 c4, .slice A5 n5 c5]
theorem TreeV.one {cs : List Value} (h : TreeV cs) : ∀ u ∈ cs, u.oneCell' = true := by
 obtain ⟨k, fl, nu, t, A4, n4, c4, A5, n5, c5, rfl⟩ := h;intro u hu;simp at hu;rcases hu with rfl | rfl | rfl | rfl | rfl | rfl <;> rfl
def OutI (ty : TypeId) (b g N cap nT : Nat) (r : ResI) (w : World) (e : Ending) (w' : World) : Prop :=
 ∃ (cs : List Value) (L' : List LineD) (m' : Nat) (f' : Flt), e = .returned (.agg cs.toArray) /\ TreeV cs /\ InAt ty b g N cap L' m' f' w' /\ InOk L' /\ Aside (fun q => q = b ∨ q = g) w w' /\
  match r with
  | .bad f => f' = f /\ f.code ≠ 0
  | .good t L m => f' = flt0 /\ L' = L /\ m' = m /\ OwnT nT (fun x => w.heap.size <= x /\ x < w'.heap.size) w' t cs
def resT : ResI -> Option TreeD
 | .bad _ => none
 | .good t _ _ => some t
structure KidsE (nT base : Nat) (wx : World) (c : Option (List TreeD)) (v : Value) (ess : List (List Value)) : Prop where
 six : ∀ es ∈ ess, es.length = 6
 row : wx.ownsRow base 34 6 v ess.length ess.flatten
 hi : ∀ q, v.ownBlock = some q -> q < wx.heap.size
 good : ∀ acc, c = some acc -> acc.length = ess.length /\ ∃ F : Nat -> Nat -> Prop, (∀ i b, F i b -> base <= b /\ b < wx.heap.size /\ v.ownBlock ≠ some b) /\ (∀ i j b, F i b -> F j b -> i = j) /\ ∀ i d es, acc[i]? = some d -> ess[i]? = some es -> OwnT nT (F i) wx d es
theorem KidsE.nil (nT base : Nat) (wx : World) : KidsE nT base wx (some []) (.slice none 0 0) [] :=
 ⟨fun _ h => (by cases h), World.ownsRow_nil _ _ _ _, fun _ h => (by cases h), fun acc h => by
  cases h
  exact ⟨rfl, fun _ _ => False, fun _ _ h => h.elim, fun _ _ _ h => h.elim, fun i d es h => (by simp at h)⟩⟩
theorem KidsE.grow {nT base : Nat} {wx : World} {acc : List TreeD} {v : Value} {ess : List (List Value)} (h : KidsE nT base wx (some acc) v ess) : GrowK nT base wx.heap.size wx acc v := by
 obtain ⟨hl, F, h1, h2, h3⟩ := h.good acc rfl;exact ⟨ess, F, hl.symm, h.six, by rw [hl]; exact h.row, h.hi, h1, h2, h3⟩
theorem KidsE.form {nT base : Nat} {wx : World} {c : Option (List TreeD)} {v : Value} {ess : List (List Value)} (h : KidsE nT base wx c v ess) : ∃ A cp, v = .slice A ess.length cp := own_form h.row
theorem KidsE.carry {nT base : Nat} {wx wy : World} {c : Option (List TreeD)} {v : Value} {ess : List (List Value)} (h : KidsE nT base wx c v ess) (hs : wx.heap.size <= wy.heap.size) (hb : ∀ q, base <= q -> q < wx.heap.size -> wy.heap[q]? = wx.heap[q]?) : KidsE nT base wy c v ess :=
 ⟨h.six, ownsRow_carry h.row (fun q hq => hb q (h.row.lt q hq).1 (h.hi q hq)), fun q hq => Nat.lt_of_lt_of_le (h.hi q hq) hs, fun acc hc => by
  obtain ⟨hl, F, h1, h2, h3⟩ := h.good acc hc
  exact ⟨hl, F, fun i b hF => ⟨(h1 i b hF).1, Nat.lt_of_lt_of_le (h1 i b hF).2.1 hs, (h1 i b hF).2.2⟩, h2, fun i d es hd he => (h3 i d es hd he).carry (fun b hF => hb b (h1 i b hF).1 (h1 i b hF).2.1) (fun _ h => h)⟩⟩
def comb2 : Option (List TreeD) -> Option TreeD -> Option (List TreeD)
 | some acc, some t => some (acc ++ [t])
 | _, _ => none
theorem KidsE.push {nT base g cap s9 : Nat} {wr w2 : World} {c : Option (List TreeD)} {t : Option TreeD} {v : Value} {ess : List (List Value)} {cs : List Value} (h : KidsE nT base wr c v ess) (hcs : cs.length = 6)
  (hkeep : ∀ q, base <= q -> q < wr.heap.size -> v.ownBlock ≠ some q -> w2.heap[q]? = wr.heap[q]?) (hbase : base <= wr.heap.size) (hs9 : wr.heap.size <= s9) (hs2 : s9 <= w2.heap.size)
  (hown : ∀ u, t = some u -> OwnT nT (fun x => wr.heap.size <= x /\ x < s9) w2 u cs)
  (ho : w2.ownsRow base 34 6 (.slice (some ⟨g, 0, none⟩) (ess.length + 1) cap) (ess.length + 1) (ess.flatten ++ cs)) (hat : v.ownBlock = some g ∨ s9 <= g) (hg : g < w2.heap.size) :
  KidsE nT base w2 (comb2 c t) (.slice (some ⟨g, 0, none⟩) (ess.length + 1) cap) (ess ++ [cs]) := by
 refine ⟨?_, by simpa using ho, ?_, ?_⟩
 ·intro x hx
  rcases List.mem_append.1 hx with hx | hx
  ·exact h.six x hx
  ·simp at hx; subst hx; exact hcs
 ·intro q hq
  simp [Value.ownBlock] at hq;omega
 ·intro acc2 hc2
  rcases c with _ | acc
  ·cases hc2
  rcases t with _ | u
  ·cases hc2
  cases hc2
  obtain ⟨hl, F, h5, h6, h7⟩ := h.good acc rfl;have hu := hown u rfl;refine ⟨by simp [hl], fun i b => (i < acc.length /\ F i b) ∨ (i = acc.length /\ wr.heap.size <= b /\ b < s9), ?_, ?_, ?_⟩
  ·rintro i b (⟨hi, hF⟩ | ⟨hi, hF1, hF2⟩)
   ·obtain ⟨f1, f2, f3⟩ := h5 i b hF
    refine ⟨f1, by omega, fun e => ?_⟩;simp [Value.ownBlock] at e;rcases hat with hat | hat
    ·rw [hat, e] at f3; exact f3 rfl
    ·omega
   ·refine ⟨by omega, by omega, fun e => ?_⟩
    simp [Value.ownBlock] at e;rcases hat with hat | hat
    ·have := h.hi g hat; omega
    ·omega
  ·rintro i j b (⟨hi, hF⟩ | ⟨hi, hF, -⟩) (⟨hj, hG⟩ | ⟨hj, hG, -⟩)
   ·exact h6 i j b hF hG
   ·have := (h5 i b hF).2.1; omega
   ·have := (h5 j b hG).2.1; omega
   ·omega
  ·intro i d' es' hd' hes'
   by_cases hlt : i < acc.length
   ·rw [List.getElem?_append_left hlt] at hd'
    rw [List.getElem?_append_left (by omega)] at hes';exact (h7 i d' es' hd' hes').carry (fun b hF => hkeep b (h5 i b hF).1 (h5 i b hF).2.1 (h5 i b hF).2.2) (fun b hF => .inl ⟨hlt, hF⟩)
   ·have hil : i = acc.length := by
     have := (List.getElem?_eq_some_iff.1 hd').1;simp at this;omega
    subst hil;rw [List.getElem?_append_right (by omega)] at hd';rw [List.getElem?_append_right (by omega)] at hes';simp at hd';simp [hl] at hes';subst hd' hes';exact hu.carry (fun _ _ => rfl) (fun b hF => .inr ⟨rfl, hF.1, hF.2⟩)
structure LBoxI (b g : Nat) (kind : Int) (w wx : World) (vk v : Value) : Prop where
 zero : wx.heap[w.heap.size]? = some (.cells #[.int .i64 0, .bool false, .int .i64 0, .string ⟨#[]⟩, .slice none 0 0, .slice none 0 0] 34 (0, 0))
 list : wx.heap[w.heap.size + 1]? = some (.cells #[.int .i64 kind, .bool false, .int .i64 0, .string ⟨#[]⟩, vk, v] 34 (0, 0))
 aside : Aside (fun q => q = b ∨ q = g ∨ w.heap.size <= q) w wx
theorem LBoxI.same {b g : Nat} {kind : Int} {w wx wy : World} {vk v : Value} {S : Nat -> Prop} (h : LBoxI b g kind w wx vk v) (hF : Aside S wx wy) (hS : ∀ q, S q -> q = b ∨ q = g ∨ w.heap.size + 2 <= q) (hb : b < w.heap.size) (hg : g < w.heap.size) : LBoxI b g kind w wy vk v :=
 ⟨(hF.block _ (row_lt h.zero) (fun hq => by have := hS _ hq; omega)).trans h.zero, (hF.block _ (row_lt h.list) (fun hq => by have := hS _ hq; omega)).trans h.list, h.aside.join hF (fun q hq _ => by have := hS q hq; omega)⟩
theorem Aside.low2 {b g : Nat} {a c : World} (h : Aside (fun q => q = b ∨ q = g ∨ a.heap.size <= q) a c) : Aside (fun q => q = b ∨ q = g) a c :=
 ⟨h.os, h.tape, h.output, h.size, fun i hi hn => h.block i hi (fun hq => hq.elim (fun e => hn (.inl e)) (fun hq => hq.elim (fun e => hn (.inr e)) (fun hq => absurd hi (by omega))))⟩
def inM (N b : Nat) (w : World) : Nat := match w.cell? ⟨b, 3, none⟩ with
 | some (.int _ z) => if z = 0 then (match w.cell? ⟨b, 1, none⟩ with | some (.int _ y) => N + 1 - y.toNat | _ => 0) else 0
 | _ => 0
theorem InAt.meas {ty : TypeId} {b g N cap : Nat} {L : List LineD} {m : Nat} {f : Flt} {w : World} (h : InAt ty b g N cap L m f w) : inM N b w = if f.code = 0 then L.length + 1 else 0 := by
 obtain ⟨p, hb⟩ := h.open;obtain ⟨a0, a1, a2, a3, a4, a5, af⟩ := row6 hb.row;have := hb.pos;unfold inM;rw [a3, a1];simp only [Int.toNat_natCast];split
 ·omega
 ·rfl
def ListI (ty : TypeId) (b g N cap i n d nT : Nat) (r : ResI) (w wx : World) : Prop :=
 ∃ (c : Option (List TreeD)) (v : Value) (ess : List (List Value)) (L : List LineD) (m : Nat) (f : Flt), LBoxI b g 5 w wx (.slice none 0 0) v /\ KidsE nT (w.heap.size + 2) wx c v ess /\ InAt ty b g N cap L m f wx /\ InOk L /\ ess.length <= 301 /\
  match c with
  | some acc => f = flt0 /\ m <= 300 /\ acc.length <= m /\ ∃ k, needI (.list i d acc) L <= k /\ k <= n /\ r = readK k (.list i d acc) L m
  | none => f.code ≠ 0 /\ r = .bad f
def headB (s : ByteArray) : Bool := firstBad.any fun c => decide (byteI s 0 = (c.toNat : Int))
def digK (s : ByteArray) (i : Nat) : Bool := allR i fun j => digitB (byteI s j)
def plnW (s : ByteArray) : Bool := decide (s = bs [110, 117, 108, 108]) || decide (s = bs [126]) || decide (s = bs [116, 114, 117, 101]) || decide (s = bs [102, 97, 108, 115, 101])
theorem figs_dig (s : ByteArray) : figsB s = digK s s.size := by
 rw [Bool.eq_iff_iff];unfold figsB digK allR;simp only [List.all_eq_true, List.mem_range, Bool.and_eq_true, decide_eq_true_eq];constructor
 ·intro h i hi
  have hm : s.get! i ∈ s.data.toList := List.mem_of_getElem? (byte_list hi);have := h _ hm;unfold digitB byteI;exact decide_eq_true (by omega)
 ·intro h c hc
  obtain ⟨i, hi, e⟩ := List.getElem_of_mem hc;have hl : i < s.size := by rw [list_size] at hi; exact hi
  have e2 := byte_list hl;rw [List.getElem?_eq_getElem hi, e] at e2;cases e2
  have h2 := h i hl;unfold digitB byteI at h2;have := of_decide_eq_true h2;omega
theorem plain_eq (s : ByteArray) : plainB s = (inB s.size 1 400 && utf8B s && !headB s && !decide (byteI s 0 = 32) && !decide (byteI s (s.size - 1) = 32) && allR s.size (plainC s) && !digK s s.size && !plnW s) := by
 have e : inB s.size 1 400 = (decide (1 <= s.size) && decide (s.size <= 400)) := by
  unfold inB;rw [Bool.eq_iff_iff];simp only [Bool.and_eq_true, decide_eq_true_eq];omega
 unfold plainB plnW;rw [figs_dig, e];show _ = (_ && _ && _ && !headB s && _ && _ && _ && _ && _)
 simp only [Bool.not_or, Bool.and_assoc];rfl
theorem plain_no {s : ByteArray} (h : inB s.size 1 400 = false ∨ utf8B s = false ∨ headB s = true ∨ byteI s 0 = 32 ∨ byteI s (s.size - 1) = 32) : plainB s = false := by
 rw [plain_eq];rcases h with h | h | h | h | h <;> simp [h]
theorem plain_at {s : ByteArray} {i : Nat} (hi : i < s.size) (h : plainC s i = false) : plainB s = false := by
 rw [plain_eq, allR_bad _ i _ hi h];simp
theorem plain_all {s : ByteArray} (h1 : inB s.size 1 400 = true) (h2 : utf8B s = true) (h3 : headB s = false) (h4 : byteI s 0 ≠ 32) (h5 : byteI s (s.size - 1) ≠ 32) (h6 : allR s.size (plainC s) = true) : plainB s = (!digK s s.size && !plnW s) := by
 rw [plain_eq, h1, h2, h3, h6];simp [h4, h5]
structure TxtNe (x y : ByteArray) : Prop where
 dec : decide (x = y) = false
 lst : (x.toList == y.toList) = false
theorem TxtNe.of {x y : ByteArray} (h : ¬ x = y) : TxtNe x y := ⟨decide_eq_false h, beq_eq_false_iff_ne.2 (fun e => h (by
 rw [ByteArray.toList_eq, ByteArray.toList_eq] at e;cases x; cases y
 congr 1
 exact Array.toList_inj.1 e))⟩
theorem bs_list (l : List UInt8) : (bs l).toList = l := by rw [ByteArray.toList_eq]; rfl
theorem is_word (s : ByteArray) (l : List UInt8) : decide (s = bs l) = (s.toList == l) := by
 by_cases e : s = bs l
 ·subst e
  rw [bs_list];simp
 ·have := (TxtNe.of e).lst
  rw [bs_list] at this;rw [decide_eq_false e, this]
theorem pre_two (s : ByteArray) (a b : UInt8) : Lib.hasPrefix s.data.toList [a, b] = decide (2 <= s.size /\ byteI s 0 = (a.toNat : Int) /\ byteI s 1 = (b.toNat : Int)) := by
 unfold hasPrefix;rw [Bool.eq_iff_iff, List.isPrefixOf_iff_prefix, List.prefix_iff_eq_take, decide_eq_true_eq];rw [<- list_size];rcases hl : s.data.toList with _ | ⟨x, _ | ⟨y, l⟩⟩
 ·simp
 ·simp
 ·have e0 := @byte_list s 0 (by rw [<- list_size, hl]; simp)
  have e1 := @byte_list s 1 (by rw [<- list_size, hl]; simp);rw [hl] at e0 e1;simp only [List.getElem?_cons_zero, List.getElem?_cons_succ, Option.some.injEq] at e0 e1;unfold byteI;rw [<- e0, <- e1];simp only [List.length_cons, List.length_nil, List.take_succ_cons, List.take_zero, List.cons.injEq, and_true];constructor
  ·rintro ⟨h1, h2⟩
   rw [h1, h2];exact ⟨by omega, rfl, rfl⟩
  ·rintro ⟨-, h1, h2⟩
   exact ⟨(UInt8.toNat_inj.1 (by omega)).symm, (UInt8.toNat_inj.1 (by omega)).symm⟩
theorem pre_one (s : ByteArray) (a : UInt8) : Lib.hasPrefix s.data.toList [a] = decide (0 < s.size /\ byteI s 0 = (a.toNat : Int)) := by
 unfold hasPrefix;rw [Bool.eq_iff_iff, List.isPrefixOf_iff_prefix, List.prefix_iff_eq_take, decide_eq_true_eq];rw [<- list_size];rcases hl : s.data.toList with _ | ⟨x, l⟩
 ·simp
 ·have e0 := @byte_list s 0 (by rw [<- list_size, hl]; simp)
  rw [hl] at e0;simp only [List.getElem?_cons_zero, Option.some.injEq] at e0;unfold byteI;rw [<- e0];simp only [List.length_cons, List.length_nil, List.take_succ_cons, List.take_zero, List.cons.injEq, and_true];constructor
  ·intro h1
   rw [h1];exact ⟨by omega, rfl⟩
  ·rintro ⟨-, h1⟩
   exact (UInt8.toNat_inj.1 (by omega)).symm
theorem findE_some {s : ByteArray} {i : Nat} : ∀ (f k : Nat), k + f = s.size -> k <= i -> i < s.size -> (∀ j, k <= j -> j < i -> endsB s j = false) -> endsB s i = true -> findE s f k = some i
 | 0, k, h, hk, hi, _, _ => by omega
 | f + 1, k, h, hk, hi, hn, he => by
  unfold findE;rw [if_pos (by omega)];by_cases e : k = i
  ·subst e
   rw [if_pos he]
  ·rw [if_neg (by rw [hn k (Nat.le_refl _) (by omega)]; decide)]
   exact findE_some f (k + 1) (by omega) (by omega) hi (fun j h1 h2 => hn j (by omega) h2) he
theorem findE_none {s : ByteArray} : ∀ (f k : Nat), (∀ j, k <= j -> j < s.size -> endsB s j = false) -> findE s f k = none
 | 0, k, _ => rfl
 | f + 1, k, hn => by
  unfold findE;by_cases e : k < s.size
  ·rw [if_pos e, if_neg (by rw [hn k (Nat.le_refl _) e]; decide)]
   exact findE_none f (k + 1) (fun j h1 h2 => hn j (by omega) h2)
  ·rw [if_neg e]
def keyV : Option (ByteArray × ByteArray) -> Value
 | none => .tuple #[.string ⟨#[]⟩, .string ⟨#[]⟩, .bool false]
 | some (k, r) => .tuple #[.string k, .string r, .bool true]
def itemV : Option (ByteArray × Nat) -> Value
 | none => .tuple #[.string ⟨#[]⟩, .int .i64 0, .bool false]
 | some (r, k) => .tuple #[.string r, .int .i64 k, .bool true]
theorem key_quot {s : ByteArray} {e : Nat} (h : 0 < s.size) (hq : byteI s 0 = 34) (hz : (quotB s 0).2 = (e : Int)) (he : endsB s e = true) : keyB s = some ((quotB s 0).1, tailL s (e + 1)) := by
 unfold keyB;rw [if_pos ⟨h, hq⟩, hz, if_pos ⟨by omega, by rw [Int.toNat_natCast]; exact he⟩, Int.toNat_natCast]
theorem key_quot_no {s : ByteArray} (h : 0 < s.size) (hq : byteI s 0 = 34) (he : (quotB s 0).2 < 0 ∨ endsB s (quotB s 0).2.toNat = false) : keyB s = none := by
 unfold keyB;rw [if_pos ⟨h, hq⟩, if_neg];rintro ⟨h1, h2⟩;rcases he with h3 | h3
 ·omega
 ·rw [h3] at h2; cases h2
theorem key_plain {s : ByteArray} {i : Nat} (hq : ¬ (0 < s.size /\ byteI s 0 = 34)) (hi : i < s.size) (hn : ∀ j, j < i -> endsB s j = false) (he : endsB s i = true) : keyB s = if plainB (s.extract 0 i) then some (s.extract 0 i, tailL s (i + 1)) else none := by
 unfold keyB;rw [if_neg hq, findE_some s.size 0 (Nat.zero_add _) (Nat.zero_le _) hi (fun j _ h => hn j h) he, extract_upto];rfl
theorem key_none {s : ByteArray} (hq : ¬ (0 < s.size /\ byteI s 0 = 34)) (hn : ∀ j, j < s.size -> endsB s j = false) : keyB s = none := by
 unfold keyB;rw [if_neg hq, findE_none s.size 0 (fun j _ h => hn j h)]
theorem tail_eq (s : ByteArray) (i : Nat) : bs (trimLeftB (s.extract i s.size).data.toList 32) = tailL s i := by
 unfold tailL;rw [extract_eq, List.take_of_length_le (by rw [List.length_drop, list_size]; exact Nat.le_refl _)]
theorem item_one {s : ByteArray} (h : s = bs [45]) : itemB s = some (bs [], 0) := by unfold itemB; rw [if_pos h]
theorem item_some {s : ByteArray} (h : ¬ s = bs [45]) (h2 : 2 <= s.size) (h0 : byteI s 0 = 45) (h1 : byteI s 1 = 32) : itemB s = some (tailL s 2, s.size - (tailL s 2).size) := by unfold itemB; rw [if_neg h, if_pos ⟨h2, h0, h1⟩]
theorem item_none {s : ByteArray} (h : ¬ s = bs [45]) (h2 : ¬ (2 <= s.size /\ byteI s 0 = 45 /\ byteI s 1 = 32)) : itemB s = none := by unfold itemB; rw [if_neg h, if_neg h2]
theorem tail_size (s : ByteArray) (i : Nat) : (tailL s i).size <= s.size := by
 unfold tailL;have h := trimL_len (s.data.toList.drop i) 32;rw [List.length_drop, list_size] at h;have e : (bs (trimLeftB (s.data.toList.drop i) 32)).size = (trimLeftB (s.data.toList.drop i) 32).length := size_mk _;omega
theorem c_impl_ItemOf (s : ByteArray) (w : World) (hs : s.size <= 1048576) :
  Calls Tryz.prog 101 #[.string s] w fun e w' => e = .returned (itemV (itemB s)) /\ w = w' := by
 by_cases h : s = (⟨#[45]⟩ : ByteArray)
 ·have HF := item_one h
  subst h;rw [HF];go_enter Tryz.func101, Tryz.ntmps101
  go_wp2_with fail
  exact bodyPost_ret (v := .tuple #[.string ⟨#[]⟩, .int .i64 0, .bool true]) (by simp only [results, Tryz.results101]; go_simp) rfl ⟨rfl, rfl⟩
 have HN := TxtNe.of h;have KP := c_HasPrefix s ⟨#[45, 32]⟩ w;rw [show Lib.hasPrefix s.data.toList (⟨#[45, 32]⟩ : ByteArray).data.toList = _ from pre_two s 45 32] at KP;have KT := c_TrimLeft (s.extract 2 s.size) w;rw [tail_eq] at KT;have hz := tail_size s 2;have k1 : (s.toList == [45]) = false := by have := HN.lst; rw [show (⟨#[45]⟩ : ByteArray).toList = [45] from by rw [ByteArray.toList_eq]] at this; exact this
 by_cases hp : 2 <= s.size /\ byteI s 0 = ((45 : UInt8).toNat : Int) /\ byteI s 1 = ((32 : UInt8).toNat : Int)
 ·rw [decide_eq_true hp] at KP
  have HF := item_some h hp.1 hp.2.1 hp.2.2;rw [HF];obtain ⟨t, ht⟩ : ∃ t, t = tailL s 2 := ⟨_, rfl⟩
  rw [<- ht] at KT hz ⊢;have h2 : 2 <= s.size := hp.1;have h2I : (2 : Int) <= s.size := by omega
  have hw : IntKind.i64.wrap ((s.size : Int) - (t.size : Int)) = (s.size : Int) - (t.size : Int) := by rw [IntKind.wrap_i64] <;> omega
  have HK := hid (And.intro KP KT);have HC : Hid (((s.size - t.size : Nat) : Int) = (s.size : Int) - (t.size : Int)) := hid (by omega);clear KP KT hp HF ht h;go_enter Tryz.func101, Tryz.ntmps101
  go_wp2_with fail
  refine HK.out.1.mono ?_;rintro e w1 ⟨rfl, rfl⟩;go_wp2_with fail
  refine HK.out.2.mono ?_;rintro e w1 ⟨rfl, rfl⟩;go_wp2_with fail
  exact bodyPost_ret (v := .tuple #[.string t, .int .i64 ((s.size : Int) - (t.size : Int)), .bool true]) (by simp only [results, Tryz.results101]; go_simp) rfl ⟨by rw [<- HC.out]; rfl, rfl⟩
 ·rw [decide_eq_false hp] at KP
  have HF := item_none h hp;rw [HF];have HK := hid KP;clear KP KT hp HF h;go_enter Tryz.func101, Tryz.ntmps101
  go_wp2_with fail
  refine HK.out.mono ?_;rintro e w1 ⟨rfl, rfl⟩;go_wp2_with fail
  exact bodyPost_ret (v := .tuple #[.string ⟨#[]⟩, .int .i64 0, .bool false]) (by simp only [results, Tryz.results101]; go_simp) rfl ⟨rfl, rfl⟩
theorem ends_at {s : ByteArray} {i : Nat} {q1 q2 q3 : Bool} (hi : i < s.size) (h1 : decide (byteI s i = 58) = q1) (h2 : decide (i + 1 = s.size) = q2) (h3 : decide (byteI s (i + 1) = 32) = q3) : endsB s i = (q1 && (q2 || q3)) := by
 unfold endsB;rw [h1, h2, h3, decide_eq_true hi, Bool.true_and]
theorem ends_past {s : ByteArray} {i : Nat} (hi : ¬ i < s.size) : endsB s i = false := by
 unfold endsB;rw [decide_eq_false hi, Bool.false_and, Bool.false_and]
theorem c_endsKey (s : ByteArray) (i : Nat) (w : World) (hs : s.size <= 1048576) (hi : i <= 1048576) :
  Calls Tryz.prog 181 #[.string s, .int .i64 i] w fun e w' => e = .returned (.bool (endsB s i)) /\ w = w' := by
 by_cases hlt : (i : Int) < s.size
 ·have hii : i < s.size := by omega
  have hd : decide ((i : Int) < s.size) = true := decide_eq_true hlt;have hz : (0 : Int) <= i := by omega
  obtain ⟨b, hbb⟩ : ∃ b : Nat, b = (s.get! i).toNat := ⟨_, rfl⟩
  have hx : (s[i]'hii).toNat = b := by rw [hbb]; exact get_byte s i hii
  have HY : Hid (byteI s i = b) := hid (by unfold byteI; rw [hbb]);clear hbb;by_cases h58 : (b : Int) = 58
  ·have k1 : ((b : Int) == 58) = true := beq_iff_eq.2 h58
   by_cases hl : (i : Int) + 1 = s.size
   ·have k2 : ((i : Int) + 1 == s.size) = true := beq_iff_eq.2 hl
    have HE := hid (ends_at hii (decide_eq_true (by rw [HY.out]; exact h58)) (decide_eq_true (by omega)) rfl);go_enter Tryz.func181, Tryz.ntmps181
    go_wp2_with fail
    go_ret
    exact ⟨by rw [HE.out]; rfl, rfl⟩
   ·have k2 : ((i : Int) + 1 == s.size) = false := beq_eq_false_iff_ne.2 hl
    have hjj : i + 1 < s.size := by omega
    have hjI : (i : Int) + 1 < s.size := by omega
    have hz1 : (0 : Int) <= (i : Int) + 1 := by omega
    obtain ⟨c, hcc⟩ : ∃ c : Nat, c = (s.get! (i + 1)).toNat := ⟨_, rfl⟩
    have hxc : (s[i + 1]'hjj).toNat = c := by rw [hcc]; exact get_byte s (i + 1) hjj
    have HZ : Hid (byteI s (i + 1) = c) := hid (by unfold byteI; rw [hcc]);clear hcc;by_cases h32 : (c : Int) = 32
    focus
     have k3 : ((c : Int) == 32) = true := beq_iff_eq.2 h32;have HE := hid (ends_at hii (decide_eq_true (by rw [HY.out]; exact h58)) (decide_eq_false (by omega)) (decide_eq_true (by rw [HZ.out]; exact h32)))
    rotate_left
    focus
     have k3 : ((c : Int) == 32) = false := beq_eq_false_iff_ne.2 h32;have HE := hid (ends_at hii (decide_eq_true (by rw [HY.out]; exact h58)) (decide_eq_false (by omega)) (decide_eq_false (by rw [HZ.out]; exact h32)))
    rotate_left
    all_goals
     go_enter Tryz.func181, Tryz.ntmps181
     go_wp2_with fail
     go_ret
     exact ⟨by rw [HE.out]; rfl, rfl⟩
  ·have k1 : ((b : Int) == 58) = false := beq_eq_false_iff_ne.2 h58
   have HE := hid (ends_at hii (decide_eq_false (by rw [HY.out]; exact h58)) rfl rfl);go_enter Tryz.func181, Tryz.ntmps181
   go_wp2_with fail
   go_ret
   exact ⟨by rw [HE.out, Bool.false_and]; rfl, rfl⟩
 ·have hd : decide ((i : Int) < s.size) = false := decide_eq_false hlt
  have HE := hid (ends_past (s := s) (i := i) (by omega));go_enter Tryz.func181, Tryz.ntmps181
  go_wp2_with fail
  go_ret
  exact ⟨by rw [HE.out]; rfl, rfl⟩
end Go.Proofs.YtohcpifekcehjaaGreatDoor
