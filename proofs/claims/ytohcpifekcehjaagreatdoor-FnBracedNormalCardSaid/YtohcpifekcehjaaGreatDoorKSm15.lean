/- Steps to FnBracedNormal. No conditions. -/
import Derived.Test.YtohcpifekcehjaaGreatDoorKSm14
import Derived.Test.YtohcpifekcehjaaGreatDoorKSm2
import Derived.Test.YtohcpifekcehjaaGreatDoorKSm13
import Derived.Test.YtohcpifekcehjaaGreatDoorKSm5
import Derived.Test.YtohcpifekcehjaaGreatDoorKSm7
import Derived.Test.YtohcpifekcehjaaGreatDoorKSm6
set_option maxHeartbeats 16000000
set_option maxRecDepth 20000
namespace Go.Proofs.YtohcpifekcehjaaGreatDoor
open Go.RowKit Go.ChangeShapes Go.WideShapes Go.ChangeAt
theorem sl_ints (w : World) (l : List Int) (hn : l.length <= 9223372036854775807) (ty : TypeId) (cs : Array Value) (hc : cs = (l.map (Value.int .i64)).toArray) :
  SlOf C_Int 1 w.heap.size (w.alloc (.cells cs ty)).heap.size (w.alloc (.cells cs ty)) l (.slice (some ⟨w.heap.size, 0, none⟩) l.length l.length) := by
 subst hc
 refine ⟨_, _, rfl, Nat.le_refl _, hn, fun _ => ⟨w.heap.size, 0, rfl, Nat.le_refl _, by simp, fun i d hd => ⟨[.int .i64 d], rfl, fun j hj => ?_, rfl⟩⟩⟩
 obtain rfl : j = 0 := by omega
 rw [cell_of_row _ _ _ _ _ _ (heap_alloc_new w _)]
 simp [hd]
theorem c_l01PickInt (code : List UInt8) (p : Nat) (l : List Int) (v : Value) (lo : Nat) (w : World) (h : CurAt code p w) (hl : SlOf C_Int 1 lo w.heap.size w l v) (hp : p < lo) (h1 : 0 < l.length) (h2 : l.length <= 1048576) :
  Calls Tryz.prog 145 #[.pointer (some ⟨p, 0, none⟩), v] w fun e w' => ∃ s : Int, e = .returned (.int .i64 s) /\ s ∈ l /\ Dr code p w w' := by
 have Hl := Lib.hid hl
 obtain ⟨A, c, rfl, hlc, hc, hA⟩ := hl
 obtain ⟨b, o, rfl, hb1, hb2, hcell⟩ := hA h1
 have hi1 : (0 : Int) < l.length := by omega
 have HC := Lib.hid hcell
 clear hA hcell
 go_enter Tryz.func145, Tryz.ntmps145
 go_wp2_with fail
 refine (c_l01Below code p l.length _ h (by omega)).mono ?_
 rintro e w1 ⟨x, rfl, hx0, hx1, -, hd⟩
 have hx2 := hx1 hi1
 obtain ⟨k, rfl⟩ : ∃ k : Nat, x = k := ⟨x.toNat, by omega⟩
 obtain ⟨s, hs⟩ := exists_at (show k < l.length by omega)
 obtain ⟨es, -, hes, rfl⟩ := HC.out k s hs
 have hy : w1.cell? ⟨b, o + k, none⟩ = some (.int .i64 s) := by
  have := hes 0 (by omega)
  rw [hd.cell hb2 (by omega)]
  simpa using this
 have Hs := Lib.hid (List.mem_of_getElem? hs)
 clear hes hs hx1
 have HD := Lib.hid hd
 clear hd
 go_wp2_with fail
 go_ret
 exact ⟨s, rfl, Hs.out, HD.out⟩
theorem c_l07Rune (code : List UInt8) (p : Nat) (w : World) (h : CurAt code p w) :
  Calls Tryz.prog 251 #[.pointer (some ⟨p, 0, none⟩)] w fun e w' => ∃ x : Int, e = .returned (.int .i64 x) /\ (-1 <= x /\ x <= 1114112) /\ Dr code p w w' := by
 have hall : ∀ x ∈ ([0, 9, 10, 31, 32, 34, 92, 126, 127, 128, 2047, 2048, 55295, 55296, 57343, 57344, 65533, 65535, 65536, 1114111, 1114112, -1] : List Int), -1 <= x /\ x <= 1114112 := by decide
 have Hall := Lib.hid hall
 clear hall
 go_enter Tryz.func251, Tryz.ntmps251
 go_wp2_with fail
 refine (c_l01Below code p 5 _ h (by omega)).mono ?_
 rintro e w1 ⟨x, rfl, hx0, hx1, -, hd⟩
 have hx2 := hx1 (by decide)
 have hc1 := hd.cur
 have hpl := hc1.lt
 have HD := Lib.hid hd
 clear hd hx1
 by_cases q0 : x = 0
 ·subst q0
  go_wp2_with fail
  refine (c_l01PickInt code p ([0, 9, 10, 31, 32, 34, 92, 126, 127, 128, 2047, 2048, 55295, 55296, 57343, 57344, 65533, 65535, 65536, 1114111, 1114112, -1] : List Int) _ w1.heap.size (w1.alloc (.cells #[.int .i64 0, .int .i64 9, .int .i64 10, .int .i64 31, .int .i64 32, .int .i64 34, .int .i64 92, .int .i64 126, .int .i64 127, .int .i64 128, .int .i64 2047, .int .i64 2048, .int .i64 55295, .int .i64 55296, .int .i64 57343, .int .i64 57344, .int .i64 65533, .int .i64 65535, .int .i64 65536, .int .i64 1114111, .int .i64 1114112, .int .i64 (-1)] 3)) (hc1.below (ext_alloc (Below.refl _ _))) (sl_ints w1 ([0, 9, 10, 31, 32, 34, 92, 126, 127, 128, 2047, 2048, 55295, 55296, 57343, 57344, 65533, 65535, 65536, 1114111, 1114112, -1] : List Int) (by decide) 3 _ rfl) hpl (by decide) (by decide)).mono ?_
  rintro e w2 ⟨y, rfl, hy, hd2⟩
  have HD2 := Lib.hid (HD.out.trans (Dr.cut hd2))
  have Hy := Lib.hid (Hall.out y hy)
  clear hy hd2
  go_wp2_with fail
  go_ret
  exact ⟨y, rfl, Hy.out, HD2.out⟩
 ·by_cases q1 : x = 1
  ·subst q1
   go_wp2_with fail
   refine (c_l01Below code p 1114112 _ hc1 (by omega)).mono ?_
   rintro e w2 ⟨y, rfl, hy0, hy1, -, hd2⟩
   have hy2 := hy1 (by decide)
   have HD2 := Lib.hid (HD.out.trans hd2)
   clear hd2 hy1
   go_wp2_with fail
   go_ret
   exact ⟨y, rfl, ⟨by omega, by omega⟩, HD2.out⟩
  ·go_wp2_with fail
   refine (c_l01Below code p 95 _ hc1 (by omega)).mono ?_
   rintro e w2 ⟨y, rfl, hy0, hy1, -, hd2⟩
   have hy2 := hy1 (by decide)
   have HD2 := Lib.hid (HD.out.trans hd2)
   clear hd2 hy1
   go_wp2_with fail
   go_ret
   exact ⟨32 + y, rfl, ⟨by omega, by omega⟩, HD2.out⟩
theorem c_l02Num (code : List UInt8) (p : Nat) (w : World) (h : CurAt code p w) :
  Calls Tryz.prog 146 #[.pointer (some ⟨p, 0, none⟩)] w fun e w' => ∃ x : Int, e = .returned (.int .i64 x) /\ (I64 x) /\ Dr code p w w' := by
 have hall : ∀ x ∈ ([0, 1, -1, 9223372036854775807, 9223372036854775806, 4611686018427387904, 4611686018427387903, -9223372036854775808, 3037000499, 3037000500] : List Int), I64 x := by unfold I64; decide
 have Hall := Lib.hid hall
 clear hall
 go_enter Tryz.func146, Tryz.ntmps146
 go_wp2_with fail
 refine (c_l01Below code p 5 _ h (by omega)).mono ?_
 rintro e w1 ⟨x, rfl, hx0, hx1, -, hd⟩
 have hx2 := hx1 (by decide)
 have hc1 := hd.cur
 have hpl := hc1.lt
 have HD := Lib.hid hd
 clear hd hx1
 by_cases q0 : x = 0
 ·subst q0
  go_wp2_with fail
  refine (c_l01PickInt code p ([0, 1, -1, 9223372036854775807, 9223372036854775806, 4611686018427387904, 4611686018427387903, -9223372036854775808, 3037000499, 3037000500] : List Int) _ w1.heap.size (w1.alloc (.cells #[.int .i64 0, .int .i64 1, .int .i64 (-1), .int .i64 9223372036854775807, .int .i64 9223372036854775806, .int .i64 4611686018427387904, .int .i64 4611686018427387903, .int .i64 (-9223372036854775808), .int .i64 3037000499, .int .i64 3037000500] 3)) (hc1.below (ext_alloc (Below.refl _ _))) (sl_ints w1 ([0, 1, -1, 9223372036854775807, 9223372036854775806, 4611686018427387904, 4611686018427387903, -9223372036854775808, 3037000499, 3037000500] : List Int) (by decide) 3 _ rfl) hpl (by decide) (by decide)).mono ?_
  rintro e w2 ⟨y, rfl, hy, hd2⟩
  have HD2 := Lib.hid (HD.out.trans (Dr.cut hd2))
  have Hy := Lib.hid (Hall.out y hy)
  clear hy hd2
  go_wp2_with fail
  go_ret
  exact ⟨y, rfl, Hy.out, HD2.out⟩
 ·by_cases q1 : x = 1
  ·subst q1
   go_wp2_with fail
   refine (c_l01Below code p 1000000000 _ hc1 (by omega)).mono ?_
   rintro e w2 ⟨y, rfl, hy0, hy1, -, hd2⟩
   have hy2 := hy1 (by decide)
   have hc2 := hd2.cur
   have HD2 := Lib.hid (HD.out.trans hd2)
   clear hd2 hy1
   go_wp2_with fail
   refine (c_l01Below code p 1000000000 _ hc2 (by omega)).mono ?_
   rintro e w3 ⟨z, rfl, hz0, hz1, -, hd3⟩
   have hz2 := hz1 (by decide)
   have HD3 := Lib.hid (HD2.out.trans hd3)
   clear hd3 hz1
   have m0 : 0 <= y * (1 + z) := Int.mul_nonneg hy0 (by omega)
   have m1 : y * (1 + z) <= 1000000000 * 1000000001 := Int.mul_le_mul (by omega) (by omega) (by omega) (by decide)
   go_wp2_with fail
   go_ret
   exact ⟨y * (1 + z), rfl, ⟨by omega, by omega⟩, HD3.out⟩
  ·go_wp2_with fail
   refine (c_l01Below code p 5000 _ hc1 (by omega)).mono ?_
   rintro e w2 ⟨y, rfl, hy0, hy1, -, hd2⟩
   have hy2 := hy1 (by decide)
   have HD2 := Lib.hid (HD.out.trans hd2)
   clear hd2 hy1
   go_wp2_with fail
   go_ret
   exact ⟨y, rfl, ⟨by omega, by omega⟩, HD2.out⟩
open Go.RowKit
theorem RowE.dr {D : Type} {enc : D -> List Value} {sz ty base : Nat} {w w' : World} {l : List D} {v : Value} {code : List UInt8} {p : Nat} (h : RowE enc sz ty base w l v) (k : Dr code p w w') (hp : p < base) : RowE enc sz ty base w' l v :=
 h.carry (fun q hq => k.block (World.ownsRow.lt h q hq).2 (by have := (World.ownsRow.lt h q hq).1; omega))
theorem Dr.low {code : List UInt8} {p : Nat} {a b c : World} (h : Dr code p a b) (k : Below a.heap.size b c) (hp : p < a.heap.size) : Dr code p a c :=
 ⟨⟨k.os.trans h.aside.os, k.tape.trans h.aside.tape, k.output.trans h.aside.output, Nat.le_trans h.aside.size k.size, fun i hi hn => (k.block i hi).trans (h.aside.block i hi hn)⟩, h.cur.keep (fun i hle => k.block i (Nat.lt_of_le_of_lt hle hp))⟩
open Go.RowKit Go.Lib
def encI (x : Int) : List Value := [.int .i64 x]
theorem encI_len (x : Int) : (encI x).length = 1 := rfl
theorem encI_one (x : Int) : ∀ v ∈ encI x, v.oneCell' = true := by intro v hv; simp [encI] at hv; rw [hv]; rfl
theorem encI_C (x : Int) (es : List Value) (h : C_Int x es) : es = encI x := h
theorem Dr.up {code : List UInt8} {p B : Nat} {a b c : World} (h : Dr code p a b) (k : Below B b c) (hp : p < B) (hB : a.heap.size = B := by rfl) : Dr code p a c := by
 subst hB
 exact h.low k hp
theorem row_ints {w : World} {base k c : Nat} {A : Option Addr} {l : List Int} (h : RowE encI 1 3 base w l (.slice A k c)) : SlOf C_Int 1 0 w.heap.size w l (.slice A k c) := by
 have h1 := h.sl encI_len (C := C_Int) (fun d _ => rfl)
 exact SlOf.keep h1 (fun _ _ _ _ => rfl) (Nat.zero_le _) (Nat.le_refl _) (fun _ _ _ h => h)
theorem c_l07Text (code : List UInt8) (p most : Nat) (w : World) (h : CurAt code p w) (hm : most <= 100) :
  Calls Tryz.prog 214 #[.pointer (some ⟨p, 0, none⟩), .int .i64 most] w fun e w' => ∃ l : List Int, e = .returned (.string ⟨(textsI l).toArray⟩) /\ l.length <= most /\ Dr code p w w' := by
 have hpl := h.lt
 obtain ⟨i0, hi, hz0, hz1, hz2⟩ := info_parts (show (Tryz.prog.info? 3).map (fun i => (i.zero, i.size, i.bytes)) = some (some (.int .i64 0), 1, 8) from by kernel_rfl)
 have H0 := hid h
 go_enter Tryz.func214, Tryz.ntmps214
 go_wp2_with fail
 go_loopw [5, 6] (fun s i wr => ∃ (k : Nat) (l : List Int), k <= most /\ l.length = k /\ i = .int .i64 k /\ RowE encI 1 3 w.heap.size wr l s /\ (∀ x ∈ l, -1 <= x /\ x <= 1114112) /\ Dr code p w wr) (fun _ i _ => most - (intOf i).toNat)
 case atStart => exact ⟨0, [], Nat.zero_le _, rfl, rfl, own_empty rfl (Nat.le_refl _), fun x hx => (by cases hx), Dr.alloc (Dr.refl H0.out) _⟩
 case round =>
  obtain ⟨k, l, hk, hl, rfl, hR, hA, hd⟩ := hrel
  obtain ⟨A, c, rfl⟩ := hR.form
  rw [hl] at hR
  have HR := hid hR
  have HA := hid hA
  have HD := hid hd
  have hws := hd.size
  have HL := hid hl
  clear hR hA hd
  go_wp2_with fail
  refine (c_l01Below code p ((most : Int) + 1) _ HD.out.cur (by omega)).mono ?_
  rintro e w2 ⟨x, rfl, hx0, hx1, -, hd2⟩
  have hx2 := hx1 (by omega)
  have HD2 := hid (HD.out.trans hd2)
  have HR2 := hid (HR.out.dr hd2 hpl)
  have hw2 := HD2.out.size
  clear hd2 hx1
  by_cases hlt : (k : Int) < x
  ·have hltd : decide ((k : Int) < x) = true := decide_eq_true hlt
   go_wp2_with fail
   refine (c_l07Rune code p _ HD2.out.cur).mono ?_
   rintro e w3 ⟨y, rfl, hy, hd3⟩
   have HY := hid hy
   have HD3 := hid (HD2.out.trans hd3)
   have HR3 := hid (HR2.out.dr hd3 hpl)
   have hw3 := HD3.out.size
   clear hd3 hy
   go_wp2_with (at_builtin; go_loud (refine wpList_append_rows (C := C_Int) rfl (.tmp 16) (.tmp 19) 132 rfl w.heap.size 3 i0 (.int .i64 0) 1 8 Tryz.underlying132 hi hz0 hz1 hz2 rfl (by decide) encI_len encI_one encI_C _ k l rfl HL.out (HR3.out.below bel) [y] (some ⟨_, 0, none⟩) 1 1 _ _ rfl rfl (sl_ints w3 [y] (by simp) 3 _ rfl) (by unfold maxLen; omega) (by omega) (by simp; omega) ?_))
   intro v' w4 hR4 hg4 ha4
   obtain ⟨A4, c4, rfl⟩ := hR4.form
   have hb4 : Below w.heap.size w3 w4 := Below.grown ((bel : Below w3.heap.size w3 _).mono hw3) hg4 (by simp; omega) (fun q hq => (World.ownsRow.lt HR3.out q hq).1)
   have HR4 := hid hR4
   have HD4 := hid (HD3.out.up hb4 hpl)
   have hln : (l ++ [y]).length = k + 1 := by rw [List.length_append, HL.out]; rfl
   have HLn := hid hln
   rw [hln]
   clear hR4 hg4 ha4 hb4 hln
   go_wp2_with fail
   go_roundw
   case rel => exact ⟨k + 1, l ++ [y], by omega, HLn.out, by go_num, by first | exact HR4.out | (rw [<- HLn.out]; exact HR4.out), fun z hz => by rcases List.mem_append.1 hz with hz | hz; exact HA.out z hz; (simp at hz; rw [hz]; exact HY.out), HD4.out⟩
   case measure => first | omega | (simp [Lib.intOf]; omega) | (simp [intOf]; omega)
  ·have hltd : decide ((k : Int) < x) = false := decide_eq_false hlt
   go_wp2_with fail
   refine (c_spec_RunesText l _ w2 0 (row_ints HR2.out) (fun z hz => by have := HA.out z hz; omega) (by have := HL.out; omega)).mono ?_
   rintro e w5 ⟨rfl, hb5⟩
   have HD5 := hid (HD2.out.step hb5)
   clear hb5
   go_wp2_with fail
   go_ret
   exact ⟨l, rfl, by have := HL.out; omega, HD5.out⟩
theorem c_l08Word (code : List UInt8) (p : Nat) (w : World) (h : CurAt code p w) :
  Calls Tryz.prog 147 #[.pointer (some ⟨p, 0, none⟩)] w fun e w' => ∃ s : ByteArray, e = .returned (.string s) /\ WordOk s /\ Dr code p w w' := by
 have HA := hid (words_low (L := ([⟨#[]⟩, ⟨#[110, 117, 108, 108]⟩, ⟨#[116, 114, 117, 101]⟩, ⟨#[126]⟩, ⟨#[45]⟩, ⟨#[45, 32, 97]⟩, ⟨#[97, 58, 32, 98]⟩, ⟨#[97, 32, 35, 98]⟩, ⟨#[49, 50]⟩, ⟨#[45, 48]⟩, ⟨#[48, 48, 55]⟩, ⟨#[120, 10, 121]⟩, ⟨#[32, 97]⟩, ⟨#[97, 32]⟩, ⟨#[34, 113, 34]⟩, ⟨#[91]⟩, ⟨#[123, 125]⟩, ⟨#[107, 58]⟩, ⟨#[35]⟩, ⟨#[53, 48, 48, 109]⟩, ⟨#[50, 71, 105]⟩] : List ByteArray)) (by decide))
 have HB := hid (words_low (L := ([⟨#[97]⟩, ⟨#[98]⟩, ⟨#[110, 97, 109, 101]⟩, ⟨#[107, 105, 110, 100]⟩, ⟨#[120, 45, 121]⟩, ⟨#[108, 97, 98, 101, 108, 115]⟩] : List ByteArray)) (by decide))
 go_enter Tryz.func147, Tryz.ntmps147
 go_wp2_with fail
 refine (c_l01Below code p 4 _ h (by omega)).mono ?_
 rintro e w1 ⟨x, rfl, hx0, hx1, -, hd⟩
 have hx2 := hx1 (by decide)
 have hc1 := hd.cur
 have hpl := hc1.lt
 have HD := hid hd
 clear hd hx1
 by_cases q0 : x = 0
 ·subst q0
  go_wp2_with fail
  refine (c_l07Text code p 5 _ hc1 (by decide)).mono ?_
  rintro e w2 ⟨l, rfl, hl, hd2⟩
  have HD2 := hid (HD.out.trans hd2)
  have HL := hid (word_texts hl)
  clear hd2 hl
  go_wp2_with fail
  go_ret
  exact ⟨_, rfl, HL.out, HD2.out⟩
 ·by_cases q1 : x = 1
  ·subst q1
   go_wp2_with fail
   refine (c_l01Pick code p ([⟨#[]⟩, ⟨#[110, 117, 108, 108]⟩, ⟨#[116, 114, 117, 101]⟩, ⟨#[126]⟩, ⟨#[45]⟩, ⟨#[45, 32, 97]⟩, ⟨#[97, 58, 32, 98]⟩, ⟨#[97, 32, 35, 98]⟩, ⟨#[49, 50]⟩, ⟨#[45, 48]⟩, ⟨#[48, 48, 55]⟩, ⟨#[120, 10, 121]⟩, ⟨#[32, 97]⟩, ⟨#[97, 32]⟩, ⟨#[34, 113, 34]⟩, ⟨#[91]⟩, ⟨#[123, 125]⟩, ⟨#[107, 58]⟩, ⟨#[35]⟩, ⟨#[53, 48, 48, 109]⟩, ⟨#[50, 71, 105]⟩] : List ByteArray) _ w1.heap.size (w1.alloc (.cells #[.string ⟨#[]⟩, .string ⟨#[110, 117, 108, 108]⟩, .string ⟨#[116, 114, 117, 101]⟩, .string ⟨#[126]⟩, .string ⟨#[45]⟩, .string ⟨#[45, 32, 97]⟩, .string ⟨#[97, 58, 32, 98]⟩, .string ⟨#[97, 32, 35, 98]⟩, .string ⟨#[49, 50]⟩, .string ⟨#[45, 48]⟩, .string ⟨#[48, 48, 55]⟩, .string ⟨#[120, 10, 121]⟩, .string ⟨#[32, 97]⟩, .string ⟨#[97, 32]⟩, .string ⟨#[34, 113, 34]⟩, .string ⟨#[91]⟩, .string ⟨#[123, 125]⟩, .string ⟨#[107, 58]⟩, .string ⟨#[35]⟩, .string ⟨#[53, 48, 48, 109]⟩, .string ⟨#[50, 71, 105]⟩] 9)) (hc1.below (ext_alloc (Below.refl _ _))) (sl_lit w1 ([⟨#[]⟩, ⟨#[110, 117, 108, 108]⟩, ⟨#[116, 114, 117, 101]⟩, ⟨#[126]⟩, ⟨#[45]⟩, ⟨#[45, 32, 97]⟩, ⟨#[97, 58, 32, 98]⟩, ⟨#[97, 32, 35, 98]⟩, ⟨#[49, 50]⟩, ⟨#[45, 48]⟩, ⟨#[48, 48, 55]⟩, ⟨#[120, 10, 121]⟩, ⟨#[32, 97]⟩, ⟨#[97, 32]⟩, ⟨#[34, 113, 34]⟩, ⟨#[91]⟩, ⟨#[123, 125]⟩, ⟨#[107, 58]⟩, ⟨#[35]⟩, ⟨#[53, 48, 48, 109]⟩, ⟨#[50, 71, 105]⟩] : List ByteArray) (fun s hs => Nat.le_trans (HA.out s hs).2 (by decide)) (by decide) 9 _ rfl) hpl (by decide) (by decide)).mono ?_
   rintro e w2 ⟨s, rfl, hs, hd2⟩
   have HD2 := hid (HD.out.trans (Dr.cut hd2))
   have Hs := hid (HA.out s hs)
   clear hd2 hs
   go_wp2_with fail
   go_ret
   exact ⟨s, rfl, Hs.out, HD2.out⟩
  ·go_wp2_with fail
   refine (c_l01Pick code p ([⟨#[97]⟩, ⟨#[98]⟩, ⟨#[110, 97, 109, 101]⟩, ⟨#[107, 105, 110, 100]⟩, ⟨#[120, 45, 121]⟩, ⟨#[108, 97, 98, 101, 108, 115]⟩] : List ByteArray) _ w1.heap.size (w1.alloc (.cells #[.string ⟨#[97]⟩, .string ⟨#[98]⟩, .string ⟨#[110, 97, 109, 101]⟩, .string ⟨#[107, 105, 110, 100]⟩, .string ⟨#[120, 45, 121]⟩, .string ⟨#[108, 97, 98, 101, 108, 115]⟩] 9)) (hc1.below (ext_alloc (Below.refl _ _))) (sl_lit w1 ([⟨#[97]⟩, ⟨#[98]⟩, ⟨#[110, 97, 109, 101]⟩, ⟨#[107, 105, 110, 100]⟩, ⟨#[120, 45, 121]⟩, ⟨#[108, 97, 98, 101, 108, 115]⟩] : List ByteArray) (fun s hs => Nat.le_trans (HB.out s hs).2 (by decide)) (by decide) 9 _ rfl) hpl (by decide) (by decide)).mono ?_
   rintro e w2 ⟨s, rfl, hs, hd2⟩
   have HD2 := hid (HD.out.trans (Dr.cut hd2))
   have Hs := hid (HB.out s hs)
   clear hd2 hs
   go_wp2_with fail
   go_ret
   exact ⟨s, rfl, Hs.out, HD2.out⟩
theorem c_rs_TextTree (t : ByteArray) (w : World) : Calls Tryz.prog 140 #[.string t] w fun e w' => e = .returned (.agg #[.int .i64 4, .bool false, .int .i64 0, .string t, .slice none 0 0, .slice none 0 0]) /\ Below w.heap.size w w' := by
 go_enter Tryz.func140, Tryz.ntmps140
 go_wp2_with fail
 exact bodyPost_ret (v := .agg #[.int .i64 4, .bool false, .int .i64 0, .string t, .slice none 0 0, .slice none 0 0]) (by simp only [results, Tryz.results140]; go_simp) rfl ⟨rfl, bel⟩
theorem c_rs_IntTree (x : Int) (w : World) : Calls Tryz.prog 139 #[.int .i64 x] w fun e w' => e = .returned (.agg #[.int .i64 3, .bool false, .int .i64 x, .string ⟨#[]⟩, .slice none 0 0, .slice none 0 0]) /\ Below w.heap.size w w' := by
 go_enter Tryz.func139, Tryz.ntmps139
 go_wp2_with fail
 exact bodyPost_ret (v := .agg #[.int .i64 3, .bool false, .int .i64 x, .string ⟨#[]⟩, .slice none 0 0, .slice none 0 0]) (by simp only [results, Tryz.results139]; go_simp) rfl ⟨rfl, bel⟩
def DrT (k : Nat) (code : List UInt8) (p : Nat) (w : World) (e : Ending) (w' : World) : Prop :=
 ∃ d cs, e = .returned (.agg cs.toArray) /\ Drawn k d /\ OwnT k (fun q => w.heap.size <= q /\ q < w'.heap.size) w' d cs /\ Dr code p w w'
theorem Dr.fin {code : List UInt8} {p H : Nat} {w w1 wF : World} (h : Dr code p w w1) (hA : Aside (fun b => b = H) w1 wF) (hH : w.heap.size <= H) (hp : p < w.heap.size) : Dr code p w wF :=
 ⟨⟨hA.os.trans h.aside.os, hA.tape.trans h.aside.tape, hA.output.trans h.aside.output, Nat.le_trans h.size hA.size, fun b hb hn => (hA.block b (Nat.lt_of_lt_of_le hb h.size) (by omega)).trans (h.aside.block b hb hn)⟩,
  h.cur.keep (fun b hb => hA.block b (by have := h.cur.lt; omega) (by omega))⟩
theorem Drawn.le {k : Nat} {d : TreeD} (h : Drawn k d) (hk : k <= 4) : sizeT k d <= 1048576 := by
 have h2 := h.size
 rcases (show k = 0 ∨ k = 1 ∨ k = 2 ∨ k = 3 ∨ k = 4 by omega) with rfl | rfl | rfl | rfl | rfl
 all_goals exact Nat.le_trans h2 (by decide)
theorem i64_0 : I64 0 := by unfold I64; decide
theorem drawn_null {k : Nat} : Drawn (k + 1) ⟨1, false, 0, ⟨#[]⟩, [], []⟩ := drawn_leaf (by unfold badH inB; simp) word_none rfl rfl rfl i64_0 (by rw [sayL_succ, if_pos rfl]; decide)
theorem drawn_flag {k : Nat} (x : Bool) : Drawn (k + 1) ⟨2, x, 0, ⟨#[]⟩, [], []⟩ := drawn_leaf (by unfold badH inB; simp) word_none rfl rfl rfl i64_0 (by rw [sayL_succ, if_neg (show ¬ (2 : Int) = 1 by decide), if_pos rfl]; cases x <;> decide)
theorem drawn_int {k : Nat} {n : Int} (h : I64 n) : Drawn (k + 1) ⟨3, false, n, ⟨#[]⟩, [], []⟩ := drawn_leaf (by unfold badH inB; simp) word_none rfl rfl rfl h (by rw [sayL_succ, if_neg (show ¬ (3 : Int) = 1 by decide), if_neg (show ¬ (3 : Int) = 2 by decide), if_pos rfl]; exact Nat.le_trans (Nat.le_of_eq Array.length_toList) (Nat.le_trans (decS_size n h) (by decide)))
theorem drawn_text {k : Nat} {s : ByteArray} (h : WordOk s) : Drawn (k + 1) ⟨4, false, 0, s, [], []⟩ := drawn_leaf (by unfold badH inB; simp) h rfl rfl rfl i64_0 (by rw [sayL_succ, if_neg (show ¬ (4 : Int) = 1 by decide), if_neg (show ¬ (4 : Int) = 2 by decide), if_neg (show ¬ (4 : Int) = 3 by decide), if_pos rfl]; exact h.quote)
theorem nums_ok {z : Int} (h : I64 z) : ∀ x ∈ ([0, 1, -1, 42, 9223372036854775807, -9223372036854775808, z] : List Int), I64 x := by
 intro x hx
 simp only [List.mem_cons, List.mem_nil_iff, or_false] at hx
 rcases hx with rfl | rfl | rfl | rfl | rfl | rfl | rfl
 all_goals first | exact h | (unfold I64; decide)
theorem c_tree_one (code : List UInt8) (p : Nat) (w : World) (h : CurAt code p w) : Calls Tryz.prog 79 #[.pointer (some ⟨p, 0, none⟩), .int .i64 1] w (DrT 1 code p w) := by
 have hpl := h.lt
 have hc := h.below (ext_alloc (o := (.cells #[.int .i64 0, .bool false, .int .i64 0, .string ⟨#[]⟩, .slice none 0 0, .slice none 0 0] 34)) (Below.refl w.heap.size w))
 go_enter Tryz.func79, Tryz.ntmps79
 go_wp2_with fail
 refine (c_l01Below code p 9 _ hc (by omega)).mono ?_
 rintro e w1 ⟨x, rfl, hx0, hx1, -, hd⟩
 have hx2 := hx1 (by decide)
 have hc1 := hd.cur
 have HD := hid hd
 clear hd hx1 hc
 have hx : x = 0 ∨ x = 1 ∨ x = 2 ∨ x = 3 ∨ x = 4 ∨ x = 5 ∨ x = 6 ∨ x = 7 ∨ x = 8 := by omega
 clear hx0 hx2
 rcases hx with q0 | q1 | q2 | q3 | q4 | q5 | q6 | q7 | q8
 ·subst q0
  have hZ := (HD.out.block (g := w.heap.size) (by simp) (by omega)).trans (heap_at (w := w) (o := (.cells #[.int .i64 0, .bool false, .int .i64 0, .string ⟨#[]⟩, .slice none 0 0, .slice none 0 0] 34)) rfl)
  obtain ⟨z0, z1, z2, z3, z4, z5, zf⟩ := row6 hZ
  have zl := row_lt hZ
  go_wp2_with fail
  refine bodyPost_ret (v := .agg #[.int .i64 1, .bool false, .int .i64 0, .string ⟨#[]⟩, .slice none 0 0, .slice none 0 0]) (by simp only [results, Tryz.results79]; go_simp) rfl ⟨⟨1, false, 0, ⟨#[]⟩, [], []⟩, _, rfl, drawn_null, own_leaf (by unfold I64; decide) i64_0 (by decide), HD.out.cut.fin (H := w.heap.size) asd (Nat.le_refl _) hpl⟩
 ·subst q1
  go_wp2_with fail
  refine (c_l01Once code p 2 _ hc1 (by omega)).mono ?_
  rintro e w2 ⟨x, rfl, hd2⟩
  have hd3 := HD.out.trans hd2
  have hZ := (hd3.block (g := w.heap.size) (by simp) (by omega)).trans (heap_at (w := w) (o := (.cells #[.int .i64 0, .bool false, .int .i64 0, .string ⟨#[]⟩, .slice none 0 0, .slice none 0 0] 34)) rfl)
  obtain ⟨z0, z1, z2, z3, z4, z5, zf⟩ := row6 hZ
  have zl := row_lt hZ
  have HD2 := hid hd3.cut
  clear hd2 hd3
  go_wp2_with fail
  refine bodyPost_ret (v := .agg #[.int .i64 2, .bool x, .int .i64 0, .string ⟨#[]⟩, .slice none 0 0, .slice none 0 0]) (by simp only [results, Tryz.results79]; go_simp) rfl ⟨⟨2, x, 0, ⟨#[]⟩, [], []⟩, _, rfl, drawn_flag x, own_leaf (by unfold I64; decide) i64_0 (by decide), HD2.out.fin (H := w.heap.size) asd (Nat.le_refl _) hpl⟩
 ·subst q2
  go_wp2_with fail
  refine (c_l02Num code p _ hc1).mono ?_
  rintro e w2 ⟨z, rfl, hz, hd2⟩
  have hall : ∀ x ∈ ([0, 1, -1, 42, 9223372036854775807, -9223372036854775808, z] : List Int), I64 x := nums_ok hz
  have Hall := hid hall
  have hd3 := HD.out.trans hd2
  have HD2 := hid hd3
  have hc2 := hd2.cur
  have hpl2 := hc2.lt
  clear hd2 hd3 hz hall
  go_wp2_with fail
  refine (c_l01PickInt code p ([0, 1, -1, 42, 9223372036854775807, -9223372036854775808, z] : List Int) _ w2.heap.size (w2.alloc (.cells #[.int .i64 0, .int .i64 1, .int .i64 (-1), .int .i64 42, .int .i64 9223372036854775807, .int .i64 (-9223372036854775808), .int .i64 z] 3)) (hc2.below (ext_alloc (Below.refl _ _))) (sl_ints w2 ([0, 1, -1, 42, 9223372036854775807, -9223372036854775808, z] : List Int) (by simp) 3 _ rfl) hpl2 (by simp) (by simp)).mono ?_
  rintro e w3 ⟨y, rfl, hy, hd4⟩
  have hd5 := HD2.out.trans (Dr.cut hd4)
  have HY := hid (Hall.out y hy)
  have HD3 := hid hd5
  clear hd4 hd5 hy hc2
  go_wp2_with fail
  refine (c_rs_IntTree y _).mono ?_
  rintro e w4 ⟨rfl, hb4⟩
  have hd6 := HD3.out.step hb4
  have hZ := (hd6.block (g := w.heap.size) (by simp) (by omega)).trans (heap_at (w := w) (o := (.cells #[.int .i64 0, .bool false, .int .i64 0, .string ⟨#[]⟩, .slice none 0 0, .slice none 0 0] 34)) rfl)
  obtain ⟨z0, z1, z2, z3, z4, z5, zf⟩ := row6 hZ
  have zl := row_lt hZ
  have HD4 := hid hd6.cut
  clear hb4 hd6
  go_wp2_with fail
  refine bodyPost_ret (v := .agg #[.int .i64 3, .bool false, .int .i64 y, .string ⟨#[]⟩, .slice none 0 0, .slice none 0 0]) (by simp only [results, Tryz.results79]; go_simp) rfl ⟨⟨3, false, y, ⟨#[]⟩, [], []⟩, _, rfl, drawn_int HY.out, own_leaf (by unfold I64; decide) HY.out (by decide), HD4.out.fin (H := w.heap.size) asd (Nat.le_refl _) hpl⟩
 ·subst q3
  go_wp2_with fail
  refine (c_l02Num code p _ hc1).mono ?_
  rintro e w2 ⟨z, rfl, hz, hd2⟩
  have hall : ∀ x ∈ ([0, 1, -1, 42, 9223372036854775807, -9223372036854775808, z] : List Int), I64 x := nums_ok hz
  have Hall := hid hall
  have hd3 := HD.out.trans hd2
  have HD2 := hid hd3
  have hc2 := hd2.cur
  have hpl2 := hc2.lt
  clear hd2 hd3 hz hall
  go_wp2_with fail
  refine (c_l01PickInt code p ([0, 1, -1, 42, 9223372036854775807, -9223372036854775808, z] : List Int) _ w2.heap.size (w2.alloc (.cells #[.int .i64 0, .int .i64 1, .int .i64 (-1), .int .i64 42, .int .i64 9223372036854775807, .int .i64 (-9223372036854775808), .int .i64 z] 3)) (hc2.below (ext_alloc (Below.refl _ _))) (sl_ints w2 ([0, 1, -1, 42, 9223372036854775807, -9223372036854775808, z] : List Int) (by simp) 3 _ rfl) hpl2 (by simp) (by simp)).mono ?_
  rintro e w3 ⟨y, rfl, hy, hd4⟩
  have hd5 := HD2.out.trans (Dr.cut hd4)
  have HY := hid (Hall.out y hy)
  have HD3 := hid hd5
  clear hd4 hd5 hy hc2
  go_wp2_with fail
  refine (c_rs_IntTree y _).mono ?_
  rintro e w4 ⟨rfl, hb4⟩
  have hd6 := HD3.out.step hb4
  have hZ := (hd6.block (g := w.heap.size) (by simp) (by omega)).trans (heap_at (w := w) (o := (.cells #[.int .i64 0, .bool false, .int .i64 0, .string ⟨#[]⟩, .slice none 0 0, .slice none 0 0] 34)) rfl)
  obtain ⟨z0, z1, z2, z3, z4, z5, zf⟩ := row6 hZ
  have zl := row_lt hZ
  have HD4 := hid hd6.cut
  clear hb4 hd6
  go_wp2_with fail
  refine bodyPost_ret (v := .agg #[.int .i64 3, .bool false, .int .i64 y, .string ⟨#[]⟩, .slice none 0 0, .slice none 0 0]) (by simp only [results, Tryz.results79]; go_simp) rfl ⟨⟨3, false, y, ⟨#[]⟩, [], []⟩, _, rfl, drawn_int HY.out, own_leaf (by unfold I64; decide) HY.out (by decide), HD4.out.fin (H := w.heap.size) asd (Nat.le_refl _) hpl⟩
 ·subst q4
  go_wp2_with fail
  refine (c_l08Word code p _ hc1).mono ?_
  rintro e w2 ⟨s, rfl, hs, hd2⟩
  have hd3 := HD.out.trans hd2
  have HW := hid hs
  have HD2 := hid hd3
  clear hd2 hd3 hs
  go_wp2_with fail
  refine (c_rs_TextTree s _).mono ?_
  rintro e w4 ⟨rfl, hb4⟩
  have hd6 := HD2.out.step hb4
  have hZ := (hd6.block (g := w.heap.size) (by simp) (by omega)).trans (heap_at (w := w) (o := (.cells #[.int .i64 0, .bool false, .int .i64 0, .string ⟨#[]⟩, .slice none 0 0, .slice none 0 0] 34)) rfl)
  obtain ⟨z0, z1, z2, z3, z4, z5, zf⟩ := row6 hZ
  have zl := row_lt hZ
  have HD4 := hid hd6.cut
  clear hb4 hd6
  go_wp2_with fail
  refine bodyPost_ret (v := .agg #[.int .i64 4, .bool false, .int .i64 0, .string s, .slice none 0 0, .slice none 0 0]) (by simp only [results, Tryz.results79]; go_simp) rfl ⟨⟨4, false, 0, s, [], []⟩, _, rfl, drawn_text HW.out, own_leaf (by unfold I64; decide) i64_0 (Nat.le_trans HW.out.2 (by decide)), HD4.out.fin (H := w.heap.size) asd (Nat.le_refl _) hpl⟩
 ·subst q5
  go_wp2_with fail
  refine (c_l08Word code p _ hc1).mono ?_
  rintro e w2 ⟨s, rfl, hs, hd2⟩
  have hd3 := HD.out.trans hd2
  have HW := hid hs
  have HD2 := hid hd3
  clear hd2 hd3 hs
  go_wp2_with fail
  refine (c_rs_TextTree s _).mono ?_
  rintro e w4 ⟨rfl, hb4⟩
  have hd6 := HD2.out.step hb4
  have hZ := (hd6.block (g := w.heap.size) (by simp) (by omega)).trans (heap_at (w := w) (o := (.cells #[.int .i64 0, .bool false, .int .i64 0, .string ⟨#[]⟩, .slice none 0 0, .slice none 0 0] 34)) rfl)
  obtain ⟨z0, z1, z2, z3, z4, z5, zf⟩ := row6 hZ
  have zl := row_lt hZ
  have HD4 := hid hd6.cut
  clear hb4 hd6
  go_wp2_with fail
  refine bodyPost_ret (v := .agg #[.int .i64 4, .bool false, .int .i64 0, .string s, .slice none 0 0, .slice none 0 0]) (by simp only [results, Tryz.results79]; go_simp) rfl ⟨⟨4, false, 0, s, [], []⟩, _, rfl, drawn_text HW.out, own_leaf (by unfold I64; decide) i64_0 (Nat.le_trans HW.out.2 (by decide)), HD4.out.fin (H := w.heap.size) asd (Nat.le_refl _) hpl⟩
 ·subst q6
  have hZ := (HD.out.block (g := w.heap.size) (by simp) (by omega)).trans (heap_at (w := w) (o := (.cells #[.int .i64 0, .bool false, .int .i64 0, .string ⟨#[]⟩, .slice none 0 0, .slice none 0 0] 34)) rfl)
  obtain ⟨z0, z1, z2, z3, z4, z5, zf⟩ := row6 hZ
  have zl := row_lt hZ
  go_wp2_with fail
  refine bodyPost_ret (v := .agg #[.int .i64 1, .bool false, .int .i64 0, .string ⟨#[]⟩, .slice none 0 0, .slice none 0 0]) (by simp only [results, Tryz.results79]; go_simp) rfl ⟨⟨1, false, 0, ⟨#[]⟩, [], []⟩, _, rfl, drawn_null, own_leaf (by unfold I64; decide) i64_0 (by decide), HD.out.cut.fin (H := w.heap.size) asd (Nat.le_refl _) hpl⟩
 ·subst q7
  go_wp2_with fail
  refine (c_l01Once code p 2 _ hc1 (by omega)).mono ?_
  rintro e w2 ⟨x, rfl, hd2⟩
  have hd3 := HD.out.trans hd2
  have hZ := (hd3.block (g := w.heap.size) (by simp) (by omega)).trans (heap_at (w := w) (o := (.cells #[.int .i64 0, .bool false, .int .i64 0, .string ⟨#[]⟩, .slice none 0 0, .slice none 0 0] 34)) rfl)
  obtain ⟨z0, z1, z2, z3, z4, z5, zf⟩ := row6 hZ
  have zl := row_lt hZ
  have HD2 := hid hd3.cut
  clear hd2 hd3
  go_wp2_with fail
  refine bodyPost_ret (v := .agg #[.int .i64 2, .bool x, .int .i64 0, .string ⟨#[]⟩, .slice none 0 0, .slice none 0 0]) (by simp only [results, Tryz.results79]; go_simp) rfl ⟨⟨2, x, 0, ⟨#[]⟩, [], []⟩, _, rfl, drawn_flag x, own_leaf (by unfold I64; decide) i64_0 (by decide), HD2.out.fin (H := w.heap.size) asd (Nat.le_refl _) hpl⟩
 ·subst q8
  go_wp2_with fail
  refine (c_l02Num code p _ hc1).mono ?_
  rintro e w2 ⟨z, rfl, hz, hd2⟩
  have hall : ∀ x ∈ ([0, 1, -1, 42, 9223372036854775807, -9223372036854775808, z] : List Int), I64 x := nums_ok hz
  have Hall := hid hall
  have hd3 := HD.out.trans hd2
  have HD2 := hid hd3
  have hc2 := hd2.cur
  have hpl2 := hc2.lt
  clear hd2 hd3 hz hall
  go_wp2_with fail
  refine (c_l01PickInt code p ([0, 1, -1, 42, 9223372036854775807, -9223372036854775808, z] : List Int) _ w2.heap.size (w2.alloc (.cells #[.int .i64 0, .int .i64 1, .int .i64 (-1), .int .i64 42, .int .i64 9223372036854775807, .int .i64 (-9223372036854775808), .int .i64 z] 3)) (hc2.below (ext_alloc (Below.refl _ _))) (sl_ints w2 ([0, 1, -1, 42, 9223372036854775807, -9223372036854775808, z] : List Int) (by simp) 3 _ rfl) hpl2 (by simp) (by simp)).mono ?_
  rintro e w3 ⟨y, rfl, hy, hd4⟩
  have hd5 := HD2.out.trans (Dr.cut hd4)
  have HY := hid (Hall.out y hy)
  have HD3 := hid hd5
  clear hd4 hd5 hy hc2
  go_wp2_with fail
  refine (c_rs_IntTree y _).mono ?_
  rintro e w4 ⟨rfl, hb4⟩
  have hd6 := HD3.out.step hb4
  have hZ := (hd6.block (g := w.heap.size) (by simp) (by omega)).trans (heap_at (w := w) (o := (.cells #[.int .i64 0, .bool false, .int .i64 0, .string ⟨#[]⟩, .slice none 0 0, .slice none 0 0] 34)) rfl)
  obtain ⟨z0, z1, z2, z3, z4, z5, zf⟩ := row6 hZ
  have zl := row_lt hZ
  have HD4 := hid hd6.cut
  clear hb4 hd6
  go_wp2_with fail
  refine bodyPost_ret (v := .agg #[.int .i64 3, .bool false, .int .i64 y, .string ⟨#[]⟩, .slice none 0 0, .slice none 0 0]) (by simp only [results, Tryz.results79]; go_simp) rfl ⟨⟨3, false, y, ⟨#[]⟩, [], []⟩, _, rfl, drawn_int HY.out, own_leaf (by unfold I64; decide) HY.out (by decide), HD4.out.fin (H := w.heap.size) asd (Nat.le_refl _) hpl⟩
theorem own_tlist {n base hi : Nat} {w wF : World} {l : List TreeD} {v : Value} {S : Nat -> Prop} (h : GrowK n base hi w l v) (hF : ∀ q, base <= q -> q < hi -> wF.heap[q]? = w.heap[q]?) (hS : ∀ b, base <= b -> b < hi -> S b) :
  OwnT (n + 1) S wF (tList l) [.int .i64 5, .bool false, .int .i64 0, .string ⟨#[]⟩, .slice none 0 0, v] :=
 OwnT.into ⟨_, _, fun _ => False, fun b => base <= b /\ b < hi, rfl, (show I64 5 from by unfold I64; decide), (show I64 0 from by unfold I64; decide), (show ByteArray.size ⟨#[]⟩ <= 9223372036854775807 from by decide), fun _ h => h.elim, fun b hb => hS b hb.1 hb.2,
  ⟨none, 0, rfl, Nat.le_refl _, by decide, fun h => by simp [tList] at h⟩, h.own.keep (fun b hb => hF b hb.1 hb.2) (fun _ h => h)⟩
theorem GrowK.carryD {code : List UInt8} {p n base hi : Nat} {w w' : World} {l : List TreeD} {v : Value} (h : GrowK n base hi w l v) (hd : Dr code p w w') (hp : p < base) (hh : hi <= w.heap.size) : GrowK n base hi w' l v := h.carry (Nat.le_refl _) (fun g h1 h2 => hd.block (g := g) (by omega) (by omega))
theorem set6_all {w : World} {b : Nat} {a0 a1 a2 a3 a4 a5 v0 v1 v2 v3 v4 v5 : Value} {e : TypeId} (h : w.heap[b]? = some (.cells #[a0, a1, a2, a3, a4, a5] e (0, 0))) :
  ((((((w.setCell ⟨b, 0, none⟩ v0).setCell ⟨b, 1, none⟩ v1).setCell ⟨b, 2, none⟩ v2).setCell ⟨b, 3, none⟩ v3).setCell ⟨b, 4, none⟩ v4).setCell ⟨b, 5, none⟩ v5).heap[b]? = some (.cells #[v0, v1, v2, v3, v4, v5] e (0, 0)) :=
 heap_setCell_same _ b 5 _ _ _ (heap_setCell_same _ b 4 _ _ _ (heap_setCell_same _ b 3 _ _ _ (heap_setCell_same _ b 2 _ _ _ (heap_setCell_same _ b 1 _ _ _ (heap_setCell_same w b 0 _ _ _ h)))))
theorem c_tree_more (k : Nat) (hk : k <= 2) (ih : ∀ (code : List UInt8) (p : Nat) (w : World), CurAt code p w -> Calls Tryz.prog 79 #[.pointer (some ⟨p, 0, none⟩), .int .i64 ((k + 1 : Nat) : Int)] w (DrT (k + 1) code p w))
  (code : List UInt8) (p : Nat) (w : World) (h : CurAt code p w) : Calls Tryz.prog 79 #[.pointer (some ⟨p, 0, none⟩), .int .i64 ((k + 2 : Nat) : Int)] w (DrT (k + 2) code p w) := by
 obtain ⟨i0, hi, hz0, hz1, hz2⟩ := info_parts (show (Tryz.prog.info? 34).map (fun i => (i.zero, i.size, i.bytes)) = some (some (.agg #[.int .i64 0, .bool false, .int .i64 0, .string ⟨#[]⟩, .slice none 0 0, .slice none 0 0]), 6, 88) from by kernel_rfl)
 have hpl := h.lt
 have hc := h.below (ext_alloc (o := (.cells #[.int .i64 0, .bool false, .int .i64 0, .string ⟨#[]⟩, .slice none 0 0, .slice none 0 0] 34)) (Below.refl w.heap.size w))
 obtain ⟨D, hD⟩ : ∃ D : Int, D = ((k + 2 : Nat) : Int) := ⟨_, rfl⟩
 have hD1 : 2 <= D := by omega
 have hD4 : D <= 4 := by omega
 obtain ⟨E, hE⟩ : ∃ E : Int, E = ((k + 1 : Nat) : Int) := ⟨_, rfl⟩
 have hDs : Hid (D - 1 = E) := hid (by omega)
 have hEw : Hid (IntKind.i64.wrap (D - 1) = E) := hid (by rw [IntWalk.i64_in _ (by omega)]; omega)
 rw [<- hE] at ih
 rw [<- hD]
 clear hD hE
 have dD : decide (D <= 1) = false := decide_eq_false (by omega)
 go_enter Tryz.func79, Tryz.ntmps79
 go_wp2_with fail
 refine (c_l01Below code p 9 _ hc (by omega)).mono ?_
 rintro e w1 ⟨y, rfl, hy0, hy1, -, hd⟩
 have hy2 := hy1 (by decide)
 have hc1 := hd.cur
 have HD := hid hd
 have hz1' := hd.size
 simp at hz1'
 clear hd hy1 hc
 have hy : y = 0 ∨ y = 1 ∨ y = 2 ∨ y = 3 ∨ y = 4 ∨ y = 5 ∨ y = 6 ∨ 7 <= y := by omega
 rcases hy with q0 | q1 | q2 | q3 | q4 | q5 | q6 | q7
 ·subst q0
  have hZ := (HD.out.block (g := w.heap.size) (by simp) (by omega)).trans (heap_at (w := w) (o := (.cells #[.int .i64 0, .bool false, .int .i64 0, .string ⟨#[]⟩, .slice none 0 0, .slice none 0 0] 34)) rfl)
  obtain ⟨z0, z1, z2, z3, z4, z5, zf⟩ := row6 hZ
  have zl := row_lt hZ
  go_wp2_with fail
  refine bodyPost_ret (v := .agg #[.int .i64 1, .bool false, .int .i64 0, .string ⟨#[]⟩, .slice none 0 0, .slice none 0 0]) (by simp only [results, Tryz.results79]; go_simp) rfl ⟨⟨1, false, 0, ⟨#[]⟩, [], []⟩, _, rfl, drawn_null, own_leaf (by unfold I64; decide) i64_0 (by decide), HD.out.cut.fin (H := w.heap.size) asd (Nat.le_refl _) hpl⟩
 ·subst q1
  go_wp2_with fail
  refine (c_l01Once code p 2 _ hc1 (by omega)).mono ?_
  rintro e w2 ⟨x, rfl, hd2⟩
  have hd3 := HD.out.trans hd2
  have hZ := (hd3.block (g := w.heap.size) (by simp) (by omega)).trans (heap_at (w := w) (o := (.cells #[.int .i64 0, .bool false, .int .i64 0, .string ⟨#[]⟩, .slice none 0 0, .slice none 0 0] 34)) rfl)
  obtain ⟨z0, z1, z2, z3, z4, z5, zf⟩ := row6 hZ
  have zl := row_lt hZ
  have HD2 := hid hd3.cut
  clear hd2 hd3
  go_wp2_with fail
  refine bodyPost_ret (v := .agg #[.int .i64 2, .bool x, .int .i64 0, .string ⟨#[]⟩, .slice none 0 0, .slice none 0 0]) (by simp only [results, Tryz.results79]; go_simp) rfl ⟨⟨2, x, 0, ⟨#[]⟩, [], []⟩, _, rfl, drawn_flag x, own_leaf (by unfold I64; decide) i64_0 (by decide), HD2.out.fin (H := w.heap.size) asd (Nat.le_refl _) hpl⟩
 ·subst q2
  go_wp2_with fail
  refine (c_l02Num code p _ hc1).mono ?_
  rintro e w2 ⟨z, rfl, hz, hd2⟩
  have hall : ∀ x ∈ ([0, 1, -1, 42, 9223372036854775807, -9223372036854775808, z] : List Int), I64 x := nums_ok hz
  have Hall := hid hall
  have hd3 := HD.out.trans hd2
  have HD2 := hid hd3
  have hc2 := hd2.cur
  have hpl2 := hc2.lt
  clear hd2 hd3 hz hall
  go_wp2_with fail
  refine (c_l01PickInt code p ([0, 1, -1, 42, 9223372036854775807, -9223372036854775808, z] : List Int) _ w2.heap.size (w2.alloc (.cells #[.int .i64 0, .int .i64 1, .int .i64 (-1), .int .i64 42, .int .i64 9223372036854775807, .int .i64 (-9223372036854775808), .int .i64 z] 3)) (hc2.below (ext_alloc (Below.refl _ _))) (sl_ints w2 ([0, 1, -1, 42, 9223372036854775807, -9223372036854775808, z] : List Int) (by simp) 3 _ rfl) hpl2 (by simp) (by simp)).mono ?_
  rintro e w3 ⟨y, rfl, hy, hd4⟩
  have hd5 := HD2.out.trans (Dr.cut hd4)
  have HY := hid (Hall.out y hy)
  have HD3 := hid hd5
  clear hd4 hd5 hy hc2
  go_wp2_with fail
  refine (c_rs_IntTree y _).mono ?_
  rintro e w4 ⟨rfl, hb4⟩
  have hd6 := HD3.out.step hb4
  have hZ := (hd6.block (g := w.heap.size) (by simp) (by omega)).trans (heap_at (w := w) (o := (.cells #[.int .i64 0, .bool false, .int .i64 0, .string ⟨#[]⟩, .slice none 0 0, .slice none 0 0] 34)) rfl)
  obtain ⟨z0, z1, z2, z3, z4, z5, zf⟩ := row6 hZ
  have zl := row_lt hZ
  have HD4 := hid hd6.cut
  clear hb4 hd6
  go_wp2_with fail
  refine bodyPost_ret (v := .agg #[.int .i64 3, .bool false, .int .i64 y, .string ⟨#[]⟩, .slice none 0 0, .slice none 0 0]) (by simp only [results, Tryz.results79]; go_simp) rfl ⟨⟨3, false, y, ⟨#[]⟩, [], []⟩, _, rfl, drawn_int HY.out, own_leaf (by unfold I64; decide) HY.out (by decide), HD4.out.fin (H := w.heap.size) asd (Nat.le_refl _) hpl⟩
 ·subst q3
  go_wp2_with fail
  refine (c_l02Num code p _ hc1).mono ?_
  rintro e w2 ⟨z, rfl, hz, hd2⟩
  have hall : ∀ x ∈ ([0, 1, -1, 42, 9223372036854775807, -9223372036854775808, z] : List Int), I64 x := nums_ok hz
  have Hall := hid hall
  have hd3 := HD.out.trans hd2
  have HD2 := hid hd3
  have hc2 := hd2.cur
  have hpl2 := hc2.lt
  clear hd2 hd3 hz hall
  go_wp2_with fail
  refine (c_l01PickInt code p ([0, 1, -1, 42, 9223372036854775807, -9223372036854775808, z] : List Int) _ w2.heap.size (w2.alloc (.cells #[.int .i64 0, .int .i64 1, .int .i64 (-1), .int .i64 42, .int .i64 9223372036854775807, .int .i64 (-9223372036854775808), .int .i64 z] 3)) (hc2.below (ext_alloc (Below.refl _ _))) (sl_ints w2 ([0, 1, -1, 42, 9223372036854775807, -9223372036854775808, z] : List Int) (by simp) 3 _ rfl) hpl2 (by simp) (by simp)).mono ?_
  rintro e w3 ⟨y, rfl, hy, hd4⟩
  have hd5 := HD2.out.trans (Dr.cut hd4)
  have HY := hid (Hall.out y hy)
  have HD3 := hid hd5
  clear hd4 hd5 hy hc2
  go_wp2_with fail
  refine (c_rs_IntTree y _).mono ?_
  rintro e w4 ⟨rfl, hb4⟩
  have hd6 := HD3.out.step hb4
  have hZ := (hd6.block (g := w.heap.size) (by simp) (by omega)).trans (heap_at (w := w) (o := (.cells #[.int .i64 0, .bool false, .int .i64 0, .string ⟨#[]⟩, .slice none 0 0, .slice none 0 0] 34)) rfl)
  obtain ⟨z0, z1, z2, z3, z4, z5, zf⟩ := row6 hZ
  have zl := row_lt hZ
  have HD4 := hid hd6.cut
  clear hb4 hd6
  go_wp2_with fail
  refine bodyPost_ret (v := .agg #[.int .i64 3, .bool false, .int .i64 y, .string ⟨#[]⟩, .slice none 0 0, .slice none 0 0]) (by simp only [results, Tryz.results79]; go_simp) rfl ⟨⟨3, false, y, ⟨#[]⟩, [], []⟩, _, rfl, drawn_int HY.out, own_leaf (by unfold I64; decide) HY.out (by decide), HD4.out.fin (H := w.heap.size) asd (Nat.le_refl _) hpl⟩
 ·subst q4
  go_wp2_with fail
  refine (c_l08Word code p _ hc1).mono ?_
  rintro e w2 ⟨s, rfl, hs, hd2⟩
  have hd3 := HD.out.trans hd2
  have HW := hid hs
  have HD2 := hid hd3
  clear hd2 hd3 hs
  go_wp2_with fail
  refine (c_rs_TextTree s _).mono ?_
  rintro e w4 ⟨rfl, hb4⟩
  have hd6 := HD2.out.step hb4
  have hZ := (hd6.block (g := w.heap.size) (by simp) (by omega)).trans (heap_at (w := w) (o := (.cells #[.int .i64 0, .bool false, .int .i64 0, .string ⟨#[]⟩, .slice none 0 0, .slice none 0 0] 34)) rfl)
  obtain ⟨z0, z1, z2, z3, z4, z5, zf⟩ := row6 hZ
  have zl := row_lt hZ
  have HD4 := hid hd6.cut
  clear hb4 hd6
  go_wp2_with fail
  refine bodyPost_ret (v := .agg #[.int .i64 4, .bool false, .int .i64 0, .string s, .slice none 0 0, .slice none 0 0]) (by simp only [results, Tryz.results79]; go_simp) rfl ⟨⟨4, false, 0, s, [], []⟩, _, rfl, drawn_text HW.out, own_leaf (by unfold I64; decide) i64_0 (Nat.le_trans HW.out.2 (by decide)), HD4.out.fin (H := w.heap.size) asd (Nat.le_refl _) hpl⟩
 ·subst q5
  go_wp2_with fail
  refine (c_l08Word code p _ hc1).mono ?_
  rintro e w2 ⟨s, rfl, hs, hd2⟩
  have hd3 := HD.out.trans hd2
  have HW := hid hs
  have HD2 := hid hd3
  clear hd2 hd3 hs
  go_wp2_with fail
  refine (c_rs_TextTree s _).mono ?_
  rintro e w4 ⟨rfl, hb4⟩
  have hd6 := HD2.out.step hb4
  have hZ := (hd6.block (g := w.heap.size) (by simp) (by omega)).trans (heap_at (w := w) (o := (.cells #[.int .i64 0, .bool false, .int .i64 0, .string ⟨#[]⟩, .slice none 0 0, .slice none 0 0] 34)) rfl)
  obtain ⟨z0, z1, z2, z3, z4, z5, zf⟩ := row6 hZ
  have zl := row_lt hZ
  have HD4 := hid hd6.cut
  clear hb4 hd6
  go_wp2_with fail
  refine bodyPost_ret (v := .agg #[.int .i64 4, .bool false, .int .i64 0, .string s, .slice none 0 0, .slice none 0 0]) (by simp only [results, Tryz.results79]; go_simp) rfl ⟨⟨4, false, 0, s, [], []⟩, _, rfl, drawn_text HW.out, own_leaf (by unfold I64; decide) i64_0 (Nat.le_trans HW.out.2 (by decide)), HD4.out.fin (H := w.heap.size) asd (Nat.le_refl _) hpl⟩
 ·subst q6
  clear hy0 hy2
  go_wp2_with fail
  go_loopw [6, 7] (fun s6 s7 wr => ∃ (i c : Nat) (A : Option Addr) (l : List TreeD), i <= 3 /\ s7 = .int .i64 i /\ s6 = .slice A i c /\ l.length = i /\ GrowK (k + 1) w1.heap.size wr.heap.size wr l (.slice A i c) /\ (∀ t ∈ l, Drawn (k + 1) t) /\ wr.heap[w.heap.size]? = some (.cells #[.int .i64 0, .bool false, .int .i64 0, .string ⟨#[]⟩, .slice none 0 0, .slice none 0 0] 34 (0, 0)) /\ Dr code p w wr /\ w1.heap.size <= wr.heap.size) (fun _ s7 _ => 4 - (intOf s7).toNat)
  case atStart =>
   exact ⟨0, 0, _, [], Nat.zero_le _, rfl, rfl, rfl, GrowK.empty rfl (Nat.le_refl _), fun t ht => (by cases ht), (Below.heap_alloc _ _ _ (by omega)).trans ((HD.out.block (g := w.heap.size) (by simp) (by omega)).trans (heap_at rfl)), HD.out.cut.alloc _, by simp⟩
  case round =>
   obtain ⟨i, c, A, l, hi3, rfl, rfl, hl, hG, hall, hZ, hdr, hws⟩ := hrel
   have HG := hid hG
   have HA := hid hall
   have HZ := hid hZ
   have HR := hid hdr
   have HL := hid hl
   have hcr := hdr.cur
   clear hG hall hZ hdr hl hc1
   go_wp2_with fail
   refine (c_l01Below code p 4 _ hcr (by omega)).mono ?_
   rintro e w2 ⟨x, rfl, hx0, hx1, -, hd2⟩
   have hx2 := hx1 (by decide)
   have hc2 := hd2.cur
   have HG2 := hid (HG.out.carryD hd2 (by omega) (Nat.le_refl _))
   have HZ2 := hid ((hd2.block (g := w.heap.size) (by omega) (by omega)).trans HZ.out)
   have HR2 := hid (HR.out.trans hd2)
   have hs2 := hd2.size
   clear hd2 hx1 hcr
   by_cases hlt : (i : Int) < x
   ·have dlt : decide ((i : Int) < x) = true := decide_eq_true hlt
    go_wp2_with fail
    rw [hDs.out]
    refine (ih code p _ hc2).mono ?_
    rintro e w9 ⟨t, es, rfl, hT, hO, hd9⟩
    obtain ⟨fA4, fc4, fA5, fc5, rfl, -⟩ := hO.flat
    have HT := hid hT
    have HO := hid hO
    have hs9 := hd9.size
    have HG9 := HG2.out.carryD hd9 (by omega) hs2
    have HZ9 := hid ((hd9.block (g := w.heap.size) (by omega) (by omega)).trans HZ2.out)
    have HR9 := hid (HR2.out.trans hd9)
    have hcl := hd9.cur.lt
    obtain ⟨ess, F, e1, e2, e3, e4, e5, e6, e7⟩ := HG9
    rw [HL.out] at e3
    have E := hid (And.intro e1 (And.intro e2 (And.intro e3 (And.intro e4 (And.intro e5 (And.intro e6 e7))))))
    have Hown := hid (fun q (hq : (Value.slice A i c).ownBlock = some q) => (e3.lt q hq).1)
    clear hT hO hd9 hc2 e1 e2 e3 e4 e5 e6 e7
    go_wp2_with (at_builtin; refine wpList_append_lies _ rfl (.tmp 53) (.tmp 58) 32 rfl w1.heap.size 34 i0 (.agg #[.int .i64 0, .bool false, .int .i64 0, .string ⟨#[]⟩, .slice none 0 0, .slice none 0 0]) 6 88 Tryz.underlying32 hi hz0 hz1 hz2 rfl (by decide) _ i ess.flatten rfl (E.out.2.2.1.alloc _) _ 1 1 [.int .i64 t.kind, .bool t.flag, .int .i64 t.num, .string t.text, .slice fA4 t.keys.length fc4, .slice fA5 t.kids.length fc5] rfl rfl (World.news_of_block (heap_at (by simp))) HO.out.one (by decide) (by unfold maxLen; omega) (by omega) (by simp; omega) _ rfl ?_)
    intro g cap w3 hown hgrow hat hlt3
    have hs3 := hgrow.size
    simp at hs3
    have hP := GrowK.push (n := k + 1) (base := w1.heap.size) (hi := wr.heap.size) (w := w9.alloc (.cells #[.int .i64 t.kind, .bool t.flag, .int .i64 t.num, .string t.text, .slice fA4 t.keys.length fc4, .slice fA5 t.kids.length fc5] 34)) (S := fun b => w2.heap.size <= b /\ b < w9.heap.size) i HL.out (by simp; omega) (HO.out.carry (fun b hb => Below.heap_alloc _ _ b hb.2) (fun b hb => hb)) (fun b hb => by simp; omega) hws ess F E.out.1 E.out.2.1 E.out.2.2.2.1 E.out.2.2.2.2.1 E.out.2.2.2.2.2.1
     (fun j d' es' h1 h2 => (E.out.2.2.2.2.2.2 j d' es' h1 h2).carry (fun b hb => Below.heap_alloc _ _ b (by have := (E.out.2.2.2.2.1 j b hb).2.1; omega)) (fun _ h => h)) hown hgrow (hat.imp id (fun h => by (try simp at h); (try simp); omega)) hlt3
    have HP := hid hP
    have hno : ∀ q, q < w1.heap.size -> (Value.slice A i c).ownBlock ≠ some q := fun q hq e => by have := Hown.out q e; omega
    have HZ3 := hid (((hgrow.block w.heap.size (by simp; omega) (fun e => hno _ (by omega) e.symm)).trans (Below.heap_alloc _ _ _ (by omega))).trans HZ9.out)
    have hb3 : Below w1.heap.size w9 w3 := Below.grown (B := w1.heap.size) ((Below.refl _ _).alloc (by omega) _) hgrow (by simp; omega) (fun q hq => Hown.out q hq)
    have HR3 := hid (HR9.out.low (hb3.mono (by omega)) hpl)
    clear hgrow hown hat hP hno
    go_wp2_with fail
    go_roundw
    case rel => exact ⟨i + 1, cap, _, l ++ [t], by omega, by go_num, rfl, by rw [List.length_append, HL.out]; rfl, HP.out, fun u hu => by rcases List.mem_append.1 hu with hu | hu; exact HA.out u hu; (simp at hu; rw [hu]; exact HT.out), HZ3.out, HR3.out, by omega⟩
    case measure => first | omega | (simp [Lib.intOf]; omega) | (simp [intOf]; omega)
   ·have dlt : decide ((i : Int) < x) = false := decide_eq_false hlt
    have hl := HL.out
    subst hl
    have hfit := ((drawn_list (k := k) (by omega) HA.out).fits (by omega)).1
    have HC := hid ((own_tlist (S := fun q => w1.heap.size <= q /\ q < wr.heap.size) HG2.out (wF := w2) (fun _ _ _ => rfl) (fun b h1 h2 => ⟨h1, h2⟩)).toC (lo := 0) (hi := w2.heap.size) (fun b hb => ⟨Nat.zero_le _, by omega⟩))
    go_wp2_with fail
    refine (c_ListTreeG (k + 1) l A c w2 0 HC.out hfit).mono ?_
    rintro e w5 ⟨cs5, rfl, hO5, hb5⟩
    obtain ⟨C4, d4, C5, d5, rfl, -⟩ := hO5.flat
    have HO5 := hid hO5
    have HD5 := hid (HR2.out.step hb5)
    have hZ5 := (hb5.block w.heap.size (by omega)).trans HZ2.out
    obtain ⟨z0, z1, z2, z3, z4, z5, zf⟩ := row6 hZ5
    have zl := row_lt hZ5
    have HDr := hid (drawn_list (k := k) (by omega) HA.out)
    clear hO5 hb5 hZ5 hfit
    go_wp2_with fail
    refine bodyPost_ret (v := .agg #[.int .i64 (tList l).kind, .bool (tList l).flag, .int .i64 (tList l).num, .string (tList l).text, .slice C4 (tList l).keys.length d4, .slice C5 (tList l).kids.length d5]) (by simp only [results, Tryz.results79]; go_simp) rfl ⟨tList l, _, rfl, HDr.out, HO5.out.carry (fun b hb => Aside.block (S := fun b => b = w.heap.size) (w := w5) asd b hb.2 (by have := hb.1; omega)) (fun b hb => by have q1 := hb.1; have q2 := hb.2; (try simp); omega), HD5.out.fin (H := w.heap.size) asd (Nat.le_refl _) hpl⟩
 ·have f0 : (y == 0) = false := beq_eq_false_iff_ne.2 (by omega)
  have f1 : (y == 1) = false := beq_eq_false_iff_ne.2 (by omega)
  have f2 : (y == 2) = false := beq_eq_false_iff_ne.2 (by omega)
  have f3 : (y == 3) = false := beq_eq_false_iff_ne.2 (by omega)
  have f4 : (y == 4) = false := beq_eq_false_iff_ne.2 (by omega)
  have f5 : (y == 5) = false := beq_eq_false_iff_ne.2 (by omega)
  have f6 : (y == 6) = false := beq_eq_false_iff_ne.2 (by omega)
  clear hy0 hy2 q7
  go_wp2_with fail
  go_loopw [9] (fun s9 wr => ∃ (i c4 c5 : Nat) (A4 A5 : Option Addr) (K : List ByteArray) (V : List TreeD), i <= 4 /\ s9 = .int .i64 i /\ wr.heap[w1.heap.size]? = some (.cells #[.int .i64 6, .bool false, .int .i64 0, .string ⟨#[]⟩, .slice A4 K.length c4, .slice A5 V.length c5] 34 (0, 0)) /\ OwnT (k + 2) (fun q => w1.heap.size < q /\ q < wr.heap.size) wr (tMap K V) [.int .i64 6, .bool false, .int .i64 0, .string ⟨#[]⟩, .slice A4 K.length c4, .slice A5 V.length c5] /\ MapD (k + 1) i K V /\ wr.heap[w.heap.size]? = some (.cells #[.int .i64 0, .bool false, .int .i64 0, .string ⟨#[]⟩, .slice none 0 0, .slice none 0 0] 34 (0, 0)) /\ Dr code p w wr) (fun s9 _ => 5 - (intOf s9).toNat)
  case atStart =>
   exact ⟨0, 0, 0, none, none, [], [], Nat.zero_le _, rfl, heap_at rfl, own_leaf (by unfold I64; decide) i64_0 (by decide), MapD.nil _, (Below.heap_alloc _ _ _ (by omega)).trans ((HD.out.block (g := w.heap.size) (by simp) (by omega)).trans (heap_at rfl)), HD.out.cut.alloc _⟩
  case round =>
   clear f0 f1 f2 f3 f4 f5 f6
   obtain ⟨i, c4, c5, A4, A5, K, V, hi4, rfl, hB, hO, hM, hZ, hdr⟩ := hrel
   have HB := hid hB
   have HO := hid hO
   have HM := hid hM
   have HZ := hid hZ
   have HR := hid hdr
   have hcr := hdr.cur
   have hbl := row_lt hB
   clear hB hO hM hZ hdr hc1
   go_wp2_with fail
   refine (c_l01Below code p 5 _ hcr (by omega)).mono ?_
   rintro e w2 ⟨x, rfl, hx0, hx1, -, hd2⟩
   have hx2 := hx1 (by decide)
   have HC2 := hid hd2.cur
   have HB2 := hid ((hd2.block (g := w1.heap.size) hbl (by omega)).trans HB.out)
   have HZ2 := hid ((hd2.block (g := w.heap.size) (by omega) (by omega)).trans HZ.out)
   have HR2 := hid (HR.out.trans hd2)
   have hs2 := hd2.size
   have HO2 := hid (HO.out.carry (S' := fun q => w1.heap.size < q /\ q < w2.heap.size) (fun b hb => hd2.block (g := b) hb.2 (by have := hb.1; omega)) (fun b hb => ⟨hb.1, by have := hb.2; omega⟩))
   clear hd2 hx1 hcr
   obtain ⟨x0, x1, x2', x3, x4, x5, xf⟩ := row6 HB2.out
   have xl := row_lt HB2.out
   by_cases hlt : (i : Int) < x
   ·have dlt : decide ((i : Int) < x) = true := decide_eq_true hlt
    have hxp : w1.heap.size ≠ p := by omega
    have hDw := hEw.out
    have hz2b : sizeT (k + 2) (tMap K V) <= 1073741824 /\ nTree (k + 2) (tMap K V) <= 1048576 := by have h9 := (drawn_map (HM.out.more (m' := 4) (by omega))).fits (by omega); exact ⟨h9.2.1, h9.1⟩
    obtain ⟨hz2, hn2⟩ := hz2b
    go_wp2_with fail
    go_region_law (first | (go_simp; go_at_call 147; refine (c_l08Word code p _ (HC2.out.below bel)).mono ?_; rintro e wa ⟨s, rfl, hs, hda⟩; obtain ⟨p0, p1, p2, p3, p4, p5, pf⟩ := row6 ((hda.block (g := w1.heap.size) xl hxp).trans HB2.out); have pxl : w1.heap.size < wa.heap.size := Nat.lt_of_lt_of_le xl hda.size) | (go_simp; go_at_call 79; refine (ih code p _ (hda.cur.below bel)).mono ?_; rintro e wb ⟨t, es, rfl, hT, hOt, hdb⟩; obtain ⟨tA4, tc4, tA5, tc5, rfl, -⟩ := hOt.flat; obtain ⟨r0, r1, r2, r3, r4, r5, rf⟩ := row6 ((hdb.block (g := w1.heap.size) pxl hxp).trans ((hda.block (g := w1.heap.size) xl hxp).trans HB2.out)); have rxl : w1.heap.size < wb.heap.size := Nat.lt_of_lt_of_le pxl hdb.size) | (go_simp; go_at_call 149; refine (c_PutKid (k + 1) (tMap K V) t _ _ s _ 0 (((HO2.out.carry (S' := fun q => q < wb.heap.size) (fun b hb => (hdb.block (g := b) (Nat.lt_of_lt_of_le hb.2 hda.size) (by have := hb.1; omega)).trans (hda.block (g := b) hb.2 (by have := hb.1; omega))) (fun b hb => Nat.lt_of_lt_of_le hb.2 (Nat.le_trans hda.size hdb.size))).toC (lo := 0) (hi := wb.heap.size) (fun b hb => ⟨Nat.zero_le _, hb⟩)).now bel) ((hOt.toC (lo := 0) (hi := wb.heap.size) (fun b hb => ⟨Nat.zero_le _, hb.2⟩)).now bel) (Nat.le_trans hs.2 (by decide)) hz2 (hT.le (by omega)) hn2 (hT.fits (by omega)).1).mono ?_; rintro e wd ⟨cs3, rfl, hO3, hbd⟩; obtain ⟨K3, V3, hput, hM3⟩ := HM.out.put (n := k + 2) hs hT; rw [hput] at hO3; obtain ⟨B4, b4, B5, b5, rfl, -⟩ := hO3.flat; obtain ⟨v0, v1, v2, v3, v4, v5, vf⟩ := row6 ((hbd.block w1.heap.size rxl).trans ((hdb.block (g := w1.heap.size) pxl hxp).trans ((hda.block (g := w1.heap.size) xl hxp).trans HB2.out))); have vxl : w1.heap.size < wd.heap.size := Nat.lt_of_lt_of_le rxl hbd.size))
    all_goals
     have q1 := hda.size
     have q2 := hdb.size
     have q3 := hbd.size
     have HDa := (HR2.out.step (bel : Below w2.heap.size w2 _)).trans hda
     have HDb := (HDa.step (bel : Below wa.heap.size wa _)).trans hdb
     have HDd := hid (HDb.step hbd)
     have HZd := hid ((hbd.block w.heap.size (by omega)).trans ((hdb.block (g := w.heap.size) (by (try simp); omega) (by omega)).trans ((hda.block (g := w.heap.size) (by (try simp); omega) (by omega)).trans HZ2.out)))
     have HBd := hid ((hbd.block w1.heap.size rxl).trans ((hdb.block (g := w1.heap.size) pxl hxp).trans ((hda.block (g := w1.heap.size) xl hxp).trans HB2.out)))
     have HO3 := hid hO3
     have HM3 := hid hM3
     clear HDa HDb hbd hdb hda hO3 hM3 hput hT hOt hs
     go_wp2_with fail
     go_roundw
     case rel => exact ⟨i + 1, b4, b5, B4, B5, K3, V3, by omega, by go_num, set6_all HBd.out, HO3.out.carry (fun b hb => Aside.block (S := fun b => b = w1.heap.size) (w := wd) asd b hb.2 (by have q5 := hb.1; (try simp at q5); omega)) (fun b hb => by have q5 := hb.1; have q6 := hb.2; (try simp at q5); (try simp); omega), HM3.out, Eq.trans (Aside.block (S := fun b => b = w1.heap.size) (w := wd) asd w.heap.size (by omega) (by omega)) HZd.out, HDd.out.fin (H := w1.heap.size) asd (by omega) hpl⟩
     case measure => first | omega | (simp [Lib.intOf]; omega) | (simp [intOf]; omega)
   ·have dlt : decide ((i : Int) < x) = false := decide_eq_false hlt
    obtain ⟨z0, z1, z2, z3, z4, z5, zf⟩ := row6 HZ2.out
    have zl := row_lt HZ2.out
    have HDr := hid (drawn_map (HM.out.more (m' := 4) (by omega)))
    go_wp2_with fail
    refine bodyPost_ret (v := .agg #[.int .i64 6, .bool false, .int .i64 0, .string ⟨#[]⟩, .slice A4 K.length c4, .slice A5 V.length c5]) (by simp only [results, Tryz.results79]; go_simp) rfl ⟨tMap K V, _, rfl, HDr.out, HO2.out.carry (fun b hb => Aside.block (S := fun b => b = w.heap.size) (w := w2) asd b hb.2 (by have := hb.1; omega)) (fun b hb => by have q1 := hb.1; have q2 := hb.2; (try simp); omega), HR2.out.fin (H := w.heap.size) asd (Nat.le_refl _) hpl⟩
theorem all_tree : ∀ k, k <= 3 -> ∀ (code : List UInt8) (p : Nat) (w : World), CurAt code p w -> Calls Tryz.prog 79 #[.pointer (some ⟨p, 0, none⟩), .int .i64 ((k + 1 : Nat) : Int)] w (DrT (k + 1) code p w)
 | 0, _, code, p, w, h => c_tree_one code p w h
 | k + 1, hk, code, p, w, h => c_tree_more k (by omega) (all_tree k (by omega)) code p w h
theorem costX_num {x : SignD} (h : x.kind = 8) : costX x = (decS x.num).data.toList.length := by unfold costX; rw [if_neg (by omega), if_pos h]
theorem costX_text {x : SignD} (h : x.kind = 7) : costX x = (quoteB x.text).data.toList.length := by unfold costX; rw [if_pos h]
theorem readJ_ok (L : List SignD) (E : Int) (hG : ∀ x ∈ L, goodX x) : ∀ (n : Nat) (j : Job) (p m : Nat) (t : TreeD) (q m' : Nat), readJ L E n j p m = .good t q m' -> m <= 300 -> JobOk L j p m t q m'
 | 0, j, p, m, t, q, m', h, _ => by rw [readJ.eq_def] at h; cases j <;> cases h
 | n + 1, .value d, p, m, t, q, m', h, hm => by
  rw [readJ_value] at h
  by_cases c1 : ¬ (kindAt L p = 1 ∨ kindAt L p = 3 ∨ 7 <= kindAt L p)
  ·rw [if_pos c1] at h; cases h
  rw [if_neg c1] at h
  by_cases c2 : 8 < d
  ·rw [if_pos c2] at h; cases h
  rw [if_neg c2] at h
  by_cases c3 : 300 <= m
  ·rw [if_pos c3] at h; cases h
  rw [if_neg c3] at h
  rcases hx : L[p]? with _ | x
  ·rw [hx] at h; cases h
  rw [hx] at h
  simp only at h
  have hC := CL_succ hx
  have hg := hG x (List.mem_of_getElem? hx)
  intro N hN
  obtain ⟨N, rfl⟩ : ∃ M, N = M + 1 := ⟨N - 1, by omega⟩
  by_cases c4 : x.kind = 7
  ·rw [if_pos c4] at h
   by_cases c5 : 400 < x.text.size
   ·rw [if_pos c5] at h; cases h
   rw [if_neg c5] at h
   cases h
   have hst : strB x.text = true := by unfold strB; rw [hg.1 c4, decide_eq_true (by omega)]; rfl
   obtain ⟨h1, h2⟩ := leaf_ok (N := N) (d := d) (t := tText x.text) (by omega) (by unfold badH tText inB; simp) hst (by unfold lensOk tText; simp) rfl rfl i64_zero
   refine ⟨h1, by rw [h2], by omega, ?_⟩
   rw [hC, costX_text c4]
   exact Nat.le_refl _
  rw [if_neg c4] at h
  by_cases c6 : x.kind = 8
  ·rw [if_pos c6] at h
   cases h
   obtain ⟨h1, h2⟩ := leaf_ok (N := N) (d := d) (t := tInt x.num) (by omega) (by unfold badH tInt inB; simp) strB_empty (by unfold lensOk tInt; simp) rfl rfl hg.2.1
   refine ⟨h1, by rw [h2], by omega, ?_⟩
   rw [hC, costX_num c6]
   exact Nat.le_refl _
  rw [if_neg c6] at h
  by_cases c7 : x.kind = 11
  ·rw [if_pos c7] at h
   cases h
   obtain ⟨h1, h2⟩ := leaf_ok (N := N) (d := d) (t := tNull) (by omega) (by unfold badH tNull inB; simp) strB_empty (by unfold lensOk tNull; simp) rfl rfl i64_zero
   refine ⟨h1, by rw [h2], by omega, ?_⟩
   have hc : costX x = 4 := by unfold costX; rw [if_neg c4, if_neg c6, if_neg (by omega), if_pos (.inr c7)]
   rw [hC, hc]
   exact Nat.le_refl _
  rw [if_neg c7] at h
  by_cases c8 : x.kind = 3
  ·rw [if_pos c8] at h
   have hk3 : kindAt L p = 3 := by unfold kindAt; rw [hx]; exact c8
   have hC3 := CL_mark hk3 (by omega)
   by_cases c9 : kindAt L (p + 1) = 4
   ·rw [if_pos c9] at h
    cases h
    obtain ⟨h1, h2⟩ := leaf_ok (N := N) (d := d) (t := tList []) (by omega) (by unfold badH tList inB; simp) strB_empty (by unfold lensOk tList; simp) rfl rfl i64_zero
    refine ⟨h1, by rw [h2], by omega, ?_⟩
    have hC4 := CL_mark c9 (by omega)
    rw [show p + 2 = p + 1 + 1 from rfl, hC4, hC3]
    exact Nat.le_refl _
   ·rw [if_neg c9] at h
    obtain ⟨more, g1, g2, g3, g4, g5, g6⟩ := readJ_ok L E hG n _ _ _ _ _ _ h (by omega) N (by omega)
    rw [List.nil_append] at g2
    subst g2
    refine ⟨list_ok (by omega) g3, ?_, g5, ?_⟩
    ·rw [sizeT_succ]
     show m' = m + (1 + szL (sizeT N) more)
     omega
    ·rw [list_len g1]
     omega
  rw [if_neg c8] at h
  by_cases c10 : x.kind = 1
  ·rw [if_pos c10] at h
   have hk1 : kindAt L p = 1 := by unfold kindAt; rw [hx]; exact c10
   have hC1 := CL_mark hk1 (by omega)
   by_cases c9 : kindAt L (p + 1) = 2
   ·rw [if_pos c9] at h
    cases h
    obtain ⟨h1, h2⟩ := leaf_ok (N := N) (d := d) (t := tMap [] []) (by omega) (by unfold badH tMap inB; simp) strB_empty (by unfold lensOk tMap; simp) rfl rfl i64_zero
    refine ⟨h1, by rw [h2], by omega, ?_⟩
    have hC4 := CL_mark c9 (by omega)
    rw [show p + 2 = p + 1 + 1 from rfl, hC4, hC1]
    exact Nat.le_refl _
   ·rw [if_neg c9] at h
    obtain ⟨ks, l, g1, g2, g3, g4, g5, g6, g7, g8, g9⟩ := readJ_ok L E hG n _ _ _ _ _ _ h (by omega) N (by omega) rfl List.Pairwise.nil (fun k hk => by cases hk) (fun k hk => by cases hk)
    subst g1
    simp only [szL] at g7 g9
    refine ⟨map_ok (by omega) g2 g4 g5 g6, ?_, g8, ?_⟩
    ·rw [sizeT_succ]
     show m' = m + (1 + szL (sizeT N) l)
     omega
    ·rw [map_len g3 g2]
     omega
  rw [if_neg c10] at h
  cases h
  have hk : 7 <= x.kind := by
   have : kindAt L p = x.kind := by unfold kindAt; rw [hx]
   omega
  obtain ⟨h1, h2⟩ := leaf_ok (N := N) (d := d) (t := tFlag (x.kind == 9)) (by omega) (by unfold badH tFlag inB; simp) strB_empty (by unfold lensOk tFlag; simp) rfl rfl i64_zero
  refine ⟨h1, by rw [h2], by omega, ?_⟩
  have hk11 := hg.2.2
  by_cases c11 : x.kind = 9
  ·have hc : costX x = 4 := by unfold costX; rw [if_neg c4, if_neg c6, if_neg (by omega), if_pos (.inl c11)]
   rw [hC, hc, c11]
   exact Nat.le_refl _
  ·have c12 : x.kind = 10 := by omega
   have hc : costX x = 5 := by unfold costX; rw [if_neg c4, if_neg c6, if_pos c12]
   rw [hC, hc, c12]
   exact Nat.le_refl _
 | n + 1, .list d acc, p, m, t, q, m', h, hm => by
  rw [readJ_list] at h
  rcases hr : readJ L E n (.value (d + 1)) p m with f | ⟨u, q1, m1⟩
  ·rw [hr] at h; cases h
  rw [hr] at h
  simp only at h
  have hv := readJ_ok L E hG n _ _ _ _ _ _ hr hm
  intro N hN
  obtain ⟨v1, v2, v3, v4⟩ := hv N (by omega)
  by_cases c1 : kindAt L q1 = 4
  ·rw [if_pos c1] at h
   cases h
   have hC := CL_mark c1 (by omega)
   refine ⟨[u], by simp, rfl, fun x hx => by simp at hx; rw [hx]; exact v1, by simp [szL]; omega, v3, ?_⟩
   simp only [szL]
   omega
  ·rw [if_neg c1] at h
   by_cases c2 : kindAt L q1 = 6
   ·rw [if_pos c2] at h
    have hC := CL_mark c2 (by omega)
    obtain ⟨more, g1, g2, g3, g4, g5, g6⟩ := readJ_ok L E hG n _ _ _ _ _ _ h v3 N hN
    refine ⟨u :: more, by simp, by rw [g2, List.append_assoc]; rfl, fun x hx => ?_, ?_, g5, ?_⟩
    ·rcases List.mem_cons.1 hx with rfl | hx
     ·exact v1
     ·exact g3 x hx
    ·simp only [szL]; omega
    ·simp only [szL]; omega
   ·rw [if_neg c2] at h; cases h
 | n + 1, .pairs d ks acc, p, m, t, q, m', h, hm => by
  rw [readJ_pairs] at h
  rcases hx : L[p]? with _ | x
  ·rw [hx] at h; cases h
  rw [hx] at h
  simp only at h
  by_cases c1 : x.kind ≠ 7
  ·rw [if_pos c1] at h; cases h
  rw [if_neg c1] at h
  by_cases c2 : 400 < x.text.size
  ·rw [if_pos c2] at h; cases h
  rw [if_neg c2] at h
  by_cases c3 : ks.contains x.text = true
  ·rw [if_pos c3] at h; cases h
  rw [if_neg c3] at h
  by_cases c4 : kindAt L (p + 1) ≠ 5
  ·rw [if_pos c4] at h; cases h
  rw [if_neg c4] at h
  rcases hr : readJ L E n (.value (d + 1)) (p + 2) m with f | ⟨u, q1, m1⟩
  ·rw [hr] at h; cases h
  rw [hr] at h
  simp only at h
  have hv := readJ_ok L E hG n _ _ _ _ _ _ hr hm
  have c7 : x.kind = 7 := by omega
  have hg := hG x (List.mem_of_getElem? hx)
  have hst : strB x.text = true := by unfold strB; rw [hg.1 c7, decide_eq_true (by omega)]; rfl
  have hC1 := CL_succ hx
  rw [costX_text c7] at hC1
  have hC2 := CL_mark (p := p + 1) (L := L) (k := 5) (by omega) (by omega)
  have hql : qlen x.text = (quoteB x.text).data.toList.length + 1 := rfl
  have e2 : p + 2 = p + 1 + 1 := rfl
  intro N hN hlen hso hks hacc
  obtain ⟨v1, v2, v3, v4⟩ := hv N (by omega)
  rw [e2] at v4
  have hle := posK_le ks x.text
  have hno : hasS ks x.text = false := by rw [<- contains_hasS]; simpa using c3
  have i1 : (insL ks (posK ks x.text) x.text).length = (insL acc (posK ks x.text) u).length := by rw [ins_len hle, ins_len (by omega), hlen]
  have i2 := ins_sorted hso hno
  have i3 : ∀ k ∈ insL ks (posK ks x.text) x.text, strB k = true := fun k hk => by
   unfold insL at hk
   rcases List.mem_append.1 hk with hk | hk
   ·exact hks k (List.mem_of_mem_take hk)
   ·rcases List.mem_cons.1 hk with rfl | hk
    ·exact hst
    ·exact hks k (List.mem_of_mem_drop hk)
  have i4 : ∀ y ∈ insL acc (posK ks x.text) u, VOk N (d + 1) y := fun y hy => by
   unfold insL at hy
   rcases List.mem_append.1 hy with hy | hy
   ·exact hacc y (List.mem_of_mem_take hy)
   ·rcases List.mem_cons.1 hy with rfl | hy
    ·exact v1
    ·exact hacc y (List.mem_of_mem_drop hy)
  have z1 := szL_ins qlen ks (posK ks x.text) x.text
  have z2 := szL_ins (sizeT N) acc (posK ks x.text) u
  have z3 := szL_ins (fun x => (sayL N x).length + 1) acc (posK ks x.text) u
  by_cases c5 : kindAt L q1 = 2
  ·rw [if_pos c5] at h
   cases h
   have hC := CL_mark c5 (by omega)
   refine ⟨_, _, rfl, i1, ?_, i2, i3, i4, by omega, v3, by omega⟩
   intro e
   rw [ins_len (by omega : posK ks x.text <= acc.length)] at i1
   have := congrArg List.length e
   rw [ins_len (by omega : posK ks x.text <= acc.length)] at this
   simp at this
  ·rw [if_neg c5] at h
   by_cases c6 : kindAt L q1 = 6
   ·rw [if_pos c6] at h
    have hC := CL_mark c6 (by omega)
    obtain ⟨ks', l', g1, g2, g3, g4, g5, g6, g7, g8, g9⟩ := readJ_ok L E hG n _ _ _ _ _ _ h v3 N hN i1 i2 i3 i4
    exact ⟨ks', l', g1, g2, g3, g4, g5, g6, by omega, g8, by omega⟩
   ·rw [if_neg c6] at h; cases h
theorem readB_ok {s : ByteArray} (h : (readB s).1.code = 0) : okT 10 (readB s).2 = true /\ numT 10 (readB s).2 /\ (sayL 10 (readB s).2).length <= s.size /\ s.size <= 20000 := by
 by_cases hf : (signsF s).2.code = 0
 ·obtain ⟨hG, hc, hs⟩ := signsF_cost hf
  have h2 := readJ_good (signsF s).1 s.size (2 * (signsF s).1.length + 4) (.value 1) 0 0 (Nat.zero_le _) (Nat.zero_le _) (by unfold needJ; simp only; omega)
  rcases hq : readJ (signsF s).1 s.size (2 * (signsF s).1.length + 4) (.value 1) 0 0 with f | ⟨t, p, m⟩
  ·rw [hq] at h2
   rw [readB_bad hf hq] at h
   exact absurd h h2
  ·by_cases hp : p < (signsF s).1.length
   ·rw [readB_more hf hq hp] at h
    exact absurd (show (4 : Int) = 0 from h) (by decide)
   ·rw [readB_good hf hq hp]
    obtain ⟨v1, v2, v3, v4⟩ := readJ_ok _ _ hG _ _ _ _ _ _ _ hq (by omega) 10 rfl
    have hdeep := v1.deep
    refine ⟨?_, v1.num, ?_, hs⟩
    ·unfold okT
     simp only
     rw [v1.shape, decide_eq_true (by omega), decide_eq_true (by omega)]
     rfl
    ·have h3 : CL (signsF s).1 p <= szL costX (signsF s).1 := szL_take_le costX _ p
     have h4 : CL (signsF s).1 0 = 0 := rfl
     simp only
     omega
 ·rw [readB_sign hf] at h
  exact absurd h hf
def RdAtS (L : List SignD) (E : Int) (b : Nat) (p m : Nat) (f : Flt) (w : World) : Prop :=
 ∃ (A : Option Addr) (c : Nat), w.heap[b]? = some (.cells (rdC A L.length c p E m f) 88 (0, 0)) /\ SignsE 0 w L (.slice A L.length c) /\ ∀ g, (Value.slice A L.length c).ownBlock = some g -> g < b
theorem RdAtS.lt {L : List SignD} {E : Int} {b p m : Nat} {f : Flt} {w : World} (h : RdAtS L E b p m f w) : b < w.heap.size := by
 obtain ⟨A, c, h1, -, -⟩ := h
 exact row_lt h1
theorem RdAtS.below {L : List SignD} {E : Int} {b p m : Nat} {f : Flt} {w w' : World} (h : RdAtS L E b p m f w) (hb : Below w.heap.size w w') : RdAtS L E b p m f w' := by
 obtain ⟨A, c, h1, h2, h3⟩ := h
 exact ⟨A, c, (hb.block b (row_lt h1)).trans h1, h2.below hb, h3⟩
theorem RdAtS.poke {L : List SignD} {E : Int} {b p m p' m' : Nat} {f f' : Flt} {w w' : World} (h : RdAtS L E b p m f w) (hF : Aside (fun q => q = b) w w') (hset : ∀ A c, w.heap[b]? = some (.cells (rdC A L.length c p E m f) 88 (0, 0)) -> w'.heap[b]? = some (.cells (rdC A L.length c p' E m' f') 88 (0, 0))) : RdAtS L E b p' m' f' w' := by
 obtain ⟨A, c, h1, h2, h3⟩ := h
 exact ⟨A, c, hset A c h1, h2.carry (fun q hq => hF.block q (World.ownsRow.lt h2 q hq).2 (fun e => absurd (h3 q hq) (by omega))), h3⟩
theorem RdAtS.past {L : List SignD} {E : Int} {b p m : Nat} {f : Flt} {w w' : World} {S : Nat -> Prop} (h : RdAtS L E b p m f w) (hF : Aside S w w') (hS : ∀ q, S q -> b < q) : RdAtS L E b p m f w' := by
 obtain ⟨A, c, h1, h2, h3⟩ := h
 exact ⟨A, c, (hF.block b (row_lt h1) (fun h => absurd (hS b h) (Nat.lt_irrefl _))).trans h1, h2.carry (fun q hq => hF.block q (World.ownsRow.lt h2 q hq).2 (fun hs => by have := hS q hs; have := h3 q hq; omega)), h3⟩
theorem c_rs_next (L : List SignD) (E : Int) (b p m : Nat) (f : Flt) (w : World) (hp : p <= 1048577) (h : RdAtS L E b p m f w) :
  Calls Tryz.prog 138 #[.pointer (some ⟨b, 0, none⟩)] w fun e w' => e = .returned (.tuple #[.int .i64 (kindAt L p), .int .i64 (placeAt L E p)]) /\ Below w.heap.size w w' := by
 obtain ⟨A, c, hbox, hrow, hne⟩ := h
 have HB := hid hbox
 unfold rdC at hbox
 obtain ⟨a0, a1, a2, a3, a4, a5, a6, af⟩ := row7r hbox
 have l0 := row_lt hbox
 have HRow := hid hrow
 clear hbox hrow hne
 by_cases hlt : (p : Int) < L.length
 ·have hz0 : (0 : Int) <= p := by omega
  have hz1 : decide ((L.length : Int) <= p) = false := decide_eq_false (by omega)
  go_enter Tryz.func138, Tryz.ntmps138
  go_wp2_with fail
  refine wp_region_det 10 (by kernel_rfl) (by kernel_rfl) (by decide) ?_
  iterate 3 refine ds ?_
  refine ds ?_
  iterate 3 refine ds ?_
  refine ds ?_
  iterate 2 refine ds ?_
  intro wq hbwq
  (try simp only [Act.put, List.setIfInBounds_toArray, List.set_cons_zero, List.set_cons_succ])
  (try simp only [List.drop_succ_cons, List.drop_nil])
  have hb1 := (hbwq.block b l0).trans HB.out
  clear a0 a1 a2 a3 a4 a5 a6 af
  obtain ⟨a0, a1, a2, a3, a4, a5, a6, af⟩ := row7r (show wq.heap[b]? = some (.cells #[.slice A L.length c, .int .i64 p, .int .i64 E, .int .i64 m, .int .i64 f.code, .int .i64 f.at', .string f.path] 88 (0, 0)) from hb1)
  have l1 := row_lt hb1
  obtain ⟨g, x, rfl, hx, hlc, lg, d0, d1, d2, d3⟩ := sign_row (p := p) (HRow.out.below hbwq) (by omega)
  have HK := hid (show kindAt L p = x.kind /\ placeAt L E p = x.at' by unfold kindAt placeAt; rw [hx]; exact ⟨rfl, rfl⟩)
  clear hx hb1
  go_wp2_with fail
  refine wp_region_det 24 (by kernel_rfl) (by kernel_rfl) (by decide) ?_
  iterate 3 refine ds ?_
  refine ds ?_
  iterate 3 refine ds ?_
  refine ds ?_
  iterate 2 refine ds ?_
  refine ds ?_
  iterate 3 refine ds ?_
  refine ds ?_
  iterate 3 refine ds ?_
  refine ds ?_
  iterate 2 refine ds ?_
  refine ds ?_
  iterate 2 refine ds ?_
  intro wr hbwr
  (try simp only [Act.put, List.setIfInBounds_toArray, List.set_cons_zero, List.set_cons_succ])
  (try simp only [List.drop_succ_cons, List.drop_nil])
  go_wp2_with fail
  exact bodyPost_ret (v := .tuple #[.int .i64 x.kind, .int .i64 x.at']) (by simp only [results, Tryz.results138]; go_simp) rfl ⟨by rw [HK.out.1, HK.out.2], bel⟩
 ·have HK := hid (show kindAt L p = 0 /\ placeAt L E p = E by unfold kindAt placeAt; rw [List.getElem?_eq_none (by omega)]; exact ⟨rfl, rfl⟩)
  have hz1 : decide ((L.length : Int) <= p) = true := decide_eq_true (by omega)
  go_enter Tryz.func138, Tryz.ntmps138
  go_wp2_with fail
  refine wp_region_det 10 (by kernel_rfl) (by kernel_rfl) (by decide) ?_
  iterate 3 refine ds ?_
  refine ds ?_
  iterate 3 refine ds ?_
  refine ds ?_
  iterate 2 refine ds ?_
  intro wq hbwq
  (try simp only [Act.put, List.setIfInBounds_toArray, List.set_cons_zero, List.set_cons_succ])
  (try simp only [List.drop_succ_cons, List.drop_nil])
  have hb1 := (hbwq.block b l0).trans HB.out
  clear a0 a1 a2 a3 a4 a5 a6 af
  obtain ⟨a0, a1, a2, a3, a4, a5, a6, af⟩ := row7r (show wq.heap[b]? = some (.cells #[.slice A L.length c, .int .i64 p, .int .i64 E, .int .i64 m, .int .i64 f.code, .int .i64 f.at', .string f.path] 88 (0, 0)) from hb1)
  have l1 := row_lt hb1
  clear hb1
  go_wp2_with fail
  refine wp_region_det 6 (by kernel_rfl) (by kernel_rfl) (by decide) ?_
  iterate 3 refine ds ?_
  refine ds ?_
  iterate 2 refine ds ?_
  intro wr hbwr
  (try simp only [Act.put, List.setIfInBounds_toArray, List.set_cons_zero, List.set_cons_succ])
  (try simp only [List.drop_succ_cons, List.drop_nil])
  go_wp2_with fail
  exact bodyPost_ret (v := .tuple #[.int .i64 0, .int .i64 E]) (by simp only [results, Tryz.results138]; go_simp) rfl ⟨by rw [HK.out.1, HK.out.2], bel⟩
theorem c_rs_bad_new (L : List SignD) (E k a : Int) (b p m : Nat) (f : Flt) (w : World) (h : RdAtS L E b p m f w) (hf : f.code = 0) :
  Calls Tryz.prog 77 #[.pointer (some ⟨b, 0, none⟩), .int .i64 k, .int .i64 a] w fun e w' => e = .returned (.agg #[.int .i64 0, .bool false, .int .i64 0, .string ⟨#[]⟩, .slice none 0 0, .slice none 0 0]) /\ RdAtS L E b p m ⟨k, a, ⟨#[]⟩⟩ w' /\ Aside (fun q => q = b) w w' := by
 have HRd := hid h
 obtain ⟨A, c, hbox, hrow, hne⟩ := h
 unfold rdC at hbox
 obtain ⟨a0, a1, a2, a3, a4, a5, a6, af⟩ := row7r hbox
 have l0 := row_lt hbox
 rw [hf] at a4
 clear hbox hrow hne hf
 go_enter Tryz.func77, Tryz.ntmps77
 go_wp2_with fail
 have hF : Aside (fun q => q = b) w (((w.setCell ⟨b, 4, none⟩ (.int .i64 k)).setCell ⟨b, 5, none⟩ (.int .i64 a)).setCell ⟨b, 6, none⟩ (.string ⟨#[]⟩)) := aside_set rfl (aside_set rfl (aside_set rfl (Aside.refl _ _)))
 have hR := RdAtS.poke (p' := p) (m' := m) (f' := ⟨k, a, ⟨#[]⟩⟩) HRd.out hF (fun A' c' h' => by unfold rdC at h' ⊢; exact set7_6 (set7_5 (set7_4 h')))
 exact bodyPost_ret (v := .agg #[.int .i64 0, .bool false, .int .i64 0, .string ⟨#[]⟩, .slice none 0 0, .slice none 0 0]) (by simp only [results, Tryz.results77]; go_simp) rfl ⟨rfl, hR.below bel, aside_alloc hF⟩
theorem c_rs_want_yes (L : List SignD) (E k : Int) (b p m : Nat) (f : Flt) (w : World) (hp : p <= 1048577) (h : RdAtS L E b p m f w) (hk : kindAt L p = k) :
  Calls Tryz.prog 213 #[.pointer (some ⟨b, 0, none⟩), .int .i64 k] w fun e w' => e = .returned (.tuple #[]) /\ RdAtS L E b (p + 1) m f w' /\ Aside (fun q => q = b) w w' := by
 have HRd := hid h
 have HK := hid hk
 clear h hk
 go_enter Tryz.func213, Tryz.ntmps213
 go_wp2_with fail
 refine (c_rs_next L E b p m f _ hp HRd.out).mono ?_
 rintro e w1 ⟨rfl, hb1⟩
 rw [HK.out]
 have HR1 := hid (HRd.out.below hb1)
 have HB1 := hid hb1
 obtain ⟨A, c, hbx, hrow, -⟩ := HR1.out
 unfold rdC at hbx
 obtain ⟨a0, a1, a2, a3, a4, a5, a6, af⟩ := row7r hbx
 have l1 := row_lt hbx
 clear hbx hrow hb1
 go_wp2_with fail
 have hF : Aside (fun q => q = b) w1 (w1.setCell ⟨b, 1, none⟩ (.int .i64 ((p : Int) + 1))) := aside_set rfl (Aside.refl _ _)
 have hR := RdAtS.poke (p' := p + 1) (m' := m) (f' := f) HR1.out hF (fun A c h => by unfold rdC at h ⊢; exact set7_1 h)
 exact bodyPost_end (v := .tuple #[]) (by simp only [results, Tryz.results213]; go_simp) rfl ⟨rfl, hR, (Aside.of_below HB1.out).trans hF⟩
theorem c_rs_want_no (L : List SignD) (E k : Int) (b p m : Nat) (f : Flt) (w : World) (hp : p <= 1048577) (h : RdAtS L E b p m f w) (hf : f.code = 0) (hk : kindAt L p ≠ k) :
  Calls Tryz.prog 213 #[.pointer (some ⟨b, 0, none⟩), .int .i64 k] w fun e w' => e = .returned (.tuple #[]) /\ RdAtS L E b p m (badF L E 4 p) w' /\ Aside (fun q => q = b) w w' := by
 have HRd := hid h
 obtain ⟨t, ht⟩ : ∃ t, t = kindAt L p := ⟨_, rfl⟩
 rw [<- ht] at hk
 have HT := hid ht
 have HFl := hid hf
 have d1 : (t != k) = true := bne_iff_ne.2 hk
 have d2 : (t == k) = false := beq_eq_false_iff_ne.2 hk
 clear ht hk h hf
 go_enter Tryz.func213, Tryz.ntmps213
 go_wp2_with fail
 refine (c_rs_next L E b p m f _ hp HRd.out).mono ?_
 rintro e w1 ⟨rfl, hb1⟩
 rw [<- HT.out]
 have HR1 := hid (HRd.out.below hb1)
 have HB1 := hid hb1
 clear hb1
 go_wp2_with fail
 refine (c_rs_bad_new L E 4 (placeAt L E p) b p m f _ HR1.out HFl.out).mono ?_
 rintro e w2 ⟨rfl, hR2, hA2⟩
 have HR2 := hid hR2
 have HA2 := hid ((Aside.of_below HB1.out).trans hA2)
 clear hR2 hA2
 go_wp2_with fail
 exact bodyPost_ret (v := .tuple #[]) (by simp only [results, Tryz.results213]; go_simp) rfl ⟨rfl, HR2.out, HA2.out⟩
end Go.Proofs.YtohcpifekcehjaaGreatDoor
