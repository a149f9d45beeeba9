/- Numbers in bytes, and how many are the same from a place on: what the program's functions and the document's come to. -/
import Derived.Test.YtodadonpfcefbaaTBitsDelsReads
namespace Go.Proofs.Ytodadonpfcefbaa.QDelsReads
open Go.RowKit Go.Proofs.YtodadonpfcefbaaW.PrintWords Go.Proofs.YtodadonpfcefbaaW.PrintLast Go.Proofs.YtodadonpfcefbaaW.PrintMore Go.Proofs.Ytodadonpfcefbaa.Base
set_option linter.unusedVariables false
set_option linter.unusedSimpArgs false

/-! ### same -/
def cnt (L : List Nat) (v : Nat) (j : Nat) : Nat := ((L.drop j).takeWhile (fun x => x == v)).length
theorem cnt_end (L : List Nat) (v j : Nat) (h : L.length ≤ j) : cnt L v j = 0 := by simp [cnt, List.drop_eq_nil_of_le h]
theorem drop_cons (L : List Nat) (j : Nat) (h : j < L.length) : L.drop j = L.getD j 0 :: L.drop (j + 1) := by
  rw [List.drop_eq_getElem_cons h, List.getD_eq_getElem?_getD, List.getElem?_eq_getElem h]
  rfl
theorem cnt_eq (L : List Nat) (v j : Nat) (h : j < L.length) (he : L.getD j 0 = v) : cnt L v j = cnt L v (j + 1) + 1 := by
  unfold cnt
  rw [drop_cons L j h, he, List.takeWhile_cons_of_pos (by simp), List.length_cons]
theorem cnt_ne (L : List Nat) (v j : Nat) (h : j < L.length) (he : L.getD j 0 ≠ v) : cnt L v j = 0 := by
  unfold cnt
  rw [drop_cons L j h, List.takeWhile_cons_of_neg (by simpa using he)]
  rfl
theorem cnt_le (L : List Nat) (v j : Nat) : cnt L v j ≤ L.length - j := by
  unfold cnt
  have := (List.takeWhile_sublist (fun x => x == v) (l := L.drop j)).length_le
  rw [List.length_drop] at this
  exact this
def sameN (L : List Nat) (i : Nat) : Nat := cnt L (L.getD i 0) i
theorem sameN_le (L : List Nat) (i : Nat) : sameN L i ≤ L.length - i := cnt_le _ _ _
theorem same_l (L : List Nat) (i : Nat) (hi : i < L.length) (hb : L.length < 9223372036854775807) (d : Nat) : ∀ j, L.length - j = d → i ≤ j → j ≤ L.length →
    Ev (fun k => runs_same.l0 k (ints L) (i : Int) (j : Int)) ((j + cnt L (L.getD i 0) j - i : Nat) : Int) := by
  induction d with
  | zero =>
    intro j hd hij hj
    refine Ev.step (f := fun _ => some ((j + cnt L (L.getD i 0) j - i : Nat) : Int)) (fun k => ?_) (Ev.now _)
    rw [runs_same.l0, if_neg (by rw [ints_length]; omega), cnt_end L _ j (by omega), w64 (by omega) (by omega)]
    congr 1
    omega
  | succ d ih =>
    intro j hd hij hj
    have hj' : j < L.length := by omega
    by_cases h : L.getD j 0 = L.getD i 0
    · rw [cnt_eq L _ j hj' h, show j + (cnt L (L.getD i 0) (j + 1) + 1) - i = j + 1 + cnt L (L.getD i 0) (j + 1) - i by omega]
      refine Ev.step (f := fun k => runs_same.l0 k (ints L) (i : Int) ((j + 1 : Nat) : Int)) (fun k => ?_) (ih (j + 1) (by omega) (by omega) (by omega))
      rw [runs_same.l0, if_pos (by rw [ints_length]; omega), if_pos (by omega), if_pos (by omega), if_pos (by rw [ints_length]; omega), rd_ints, rd_ints, h, if_pos rfl, succ64 (by omega)]
    · rw [cnt_ne L _ j hj' h]
      refine Ev.step (f := fun _ => some ((j + 0 - i : Nat) : Int)) (fun k => ?_) (Ev.now _)
      rw [runs_same.l0, if_pos (by rw [ints_length]; omega), if_pos (by omega), if_pos (by omega), if_pos (by rw [ints_length]; omega), rd_ints, rd_ints, if_neg (by omega), w64 (by omega) (by omega)]
      congr 1
      omega
theorem same_ev (L : List Nat) (i : Nat) (hi : i < L.length) (hb : L.length < 9223372036854775807) : Ev (fun k => runs_same.f k (ints L) (i : Int)) ((sameN L i : Nat) : Int) := by
  have := same_l L i hi hb _ i rfl (by omega) (by omega)
  rw [show i + cnt L (L.getD i 0) i - i = sameN L i from by unfold sameN; omega] at this
  exact Ev.congr (fun k => by rw [runs_same.f]) this
/-! ### Put -/
def putN (n : Nat) : List Nat := if h : n < 128 then [n] else (n % 128 + 128) :: putN (n / 128)
termination_by n
decreasing_by omega
theorem putN_small {n : Nat} (h : n < 128) : putN n = [n] := by rw [putN, dif_pos h]
theorem putN_big {n : Nat} (h : ¬ n < 128) : putN n = (n % 128 + 128) :: putN (n / 128) := by rw [putN, dif_neg h]
theorem putN_lt : ∀ n : Nat, ∀ x ∈ putN n, x < 256 := by
  intro n
  induction n using Nat.strongRecOn with
  | _ n ih =>
    by_cases h : n < 128
    · rw [putN_small h]
      intro x hx
      rw [List.mem_singleton] at hx
      omega
    · rw [putN_big h]
      intro x hx
      rcases List.mem_cons.1 hx with hx | hx
      · omega
      · exact ih _ (by omega) x hx
theorem putN_length (j : Nat) : ∀ n : Nat, n < 128 ^ (j + 1) → (putN n).length ≤ j + 1 := by
  induction j with
  | zero => intro n h; rw [putN_small (by simpa using h)]; simp
  | succ j ih =>
    intro n h
    by_cases hs : n < 128
    · rw [putN_small hs]; simp
    · rw [putN_big hs, List.length_cons]
      have := ih (n / 128) (by rw [Nat.div_lt_iff_lt_mul (by decide), ← Nat.pow_succ]; exact h)
      omega
theorem putN_10 {n : Nat} (h : n < 2 ^ 64) : (putN n).length ≤ 10 := putN_length 9 n (Nat.lt_of_lt_of_le h (by decide))
theorem or128 (n : Nat) : (n % 256) ||| 128 = n % 128 + 128 := by
  have h : (n % 256) ||| 128 = (n % 128) ||| 128 := by
    apply Nat.eq_of_testBit_eq
    intro i
    rw [Nat.testBit_or, Nat.testBit_or, show (256 : Nat) = 2 ^ 8 from rfl, show (128 : Nat) = 2 ^ 7 from rfl, Nat.testBit_mod_two_pow, Nat.testBit_mod_two_pow, Nat.testBit_two_pow]
    by_cases h7 : 7 = i
    · simp [h7]
    · simp only [h7, decide_false, Bool.or_false]
      by_cases h8 : i < 7
      · simp [h8, show i < 8 by omega]
      · simp [h8, show ¬ i < 8 by omega]
  rw [h, Nat.or_comm, show (128 : Nat) = 2 ^ 7 * 1 from rfl, ← Nat.two_pow_add_eq_or_of_lt (Nat.mod_lt _ (by decide))]
  omega
theorem put_l (n : Nat) : n < 2 ^ 64 → ∀ A : List Nat, A.length + (putN n).length < 140737488355328 → Ev (fun k => varint_Put.l0 k (n : Int) (ints A)) (ints (A ++ putN n)) := by
  induction n using Nat.strongRecOn with
  | _ n ih =>
    intro hn A hA
    by_cases h : n < 128
    · rw [putN_small h] at hA ⊢
      refine Ev.step (f := fun _ => some (ints (A ++ [n]))) (fun k => ?_) (Ev.now _)
      rw [varint_Put.l0, if_neg (by omega), if_pos (by rw [ints_length]; simp at hA; omega), show (n : Int) % 256 = (n : Int) by omega]
      rw [show [(n : Int)] = ints [n] from rfl, ints_append]
    · rw [putN_big h] at hA ⊢
      rw [List.length_cons] at hA
      refine Ev.step (f := fun k => varint_Put.l0 k ((n / 128 : Nat) : Int) (ints (A ++ [n % 128 + 128]))) (fun k => ?_) ?_
      · rw [varint_Put.l0, if_pos (by omega), if_pos (by rw [ints_length]; omega)]
        have e : Go.bits .or .u8 ((n : Int) % 256) 128 = ((n % 128 + 128 : Nat) : Int) := by
          rw [show (n : Int) % 256 = ((n % 256 : Nat) : Int) by omega, show (128 : Int) = ((128 : Nat) : Int) from rfl, or8 (Nat.mod_lt _ (by decide)) (by decide), or128]
        rw [e, show [((n % 128 + 128 : Nat) : Int)] = ints [n % 128 + 128] from rfl, ints_append, show (n : Int) / 128 = ((n / 128 : Nat) : Int) by omega]
      · have := ih (n / 128) (by omega) (by omega) (A ++ [n % 128 + 128]) (by rw [List.length_append, List.length_singleton]; omega)
        rw [List.append_assoc] at this
        exact this
theorem put_ev {n : Nat} (hn : n < 2 ^ 64) : Ev (fun k => varint_Put.f k [] (n : Int)) (ints (putN n)) := by
  have h10 := putN_10 hn
  refine Ev.congr (f := fun k => varint_Put.l0 k (n : Int) (ints [])) (fun k => by rw [varint_Put.f, Option.bind_some, if_pos (by simp)]; rfl) ?_
  have := put_l n hn [] (by simp; omega)
  rwa [List.nil_append] at this

end Go.Proofs.Ytodadonpfcefbaa.QDelsReads

namespace Go.Proofs.Ytodadonpfcefbaa.QDelsReads
open Go.RowKit Go.Proofs.YtodadonpfcefbaaW.PrintWords Go.Proofs.YtodadonpfcefbaaW.PrintLast Go.Proofs.YtodadonpfcefbaaW.PrintMore Go.Proofs.Ytodadonpfcefbaa.Base
set_option linter.unusedVariables false
set_option linter.unusedSimpArgs false
set_option linter.unusedSectionVars false

def gstep (C : List Nat) (j : Nat) (v : Int) : Int := Go.bits .or .u64 v (shl .u64 (IntKind.u64.wrap (Go.bits .and .u8 ((C.getD j 0 : Nat) : Int) 127)) ((7 * j : Nat) : Int))
/-- The number of the first bytes. -/
def gv (C : List Nat) : Nat → Int
  | 0 => 0
  | j + 1 => gstep C j (gv C j)
/-- How many bytes at the beginning say that there are more. -/
def moreN (C : List Nat) : Nat := (C.takeWhile (fun x => decide (128 ≤ x))).length
theorem moreN_le (C : List Nat) : moreN C ≤ C.length := (List.takeWhile_sublist _).length_le
theorem moreN_lt : ∀ (C : List Nat) (j : Nat), j < moreN C → 128 ≤ C.getD j 0
  | [], j, h => by simp [moreN] at h
  | c :: C, j, h => by
    by_cases hc : 128 ≤ c
    · cases j with
      | zero => simpa using hc
      | succ j =>
        have := moreN_lt C j (by simp [moreN, hc] at h ⊢; omega)
        simpa using this
    · simp [moreN, hc] at h
theorem moreN_at : ∀ (C : List Nat), moreN C < C.length → C.getD (moreN C) 0 < 128
  | [], h => by simp at h
  | c :: C, h => by
    by_cases hc : 128 ≤ c
    · have e : moreN (c :: C) = moreN C + 1 := by simp [moreN, hc]
      rw [e] at h ⊢
      have := moreN_at C (by simpa using h)
      simpa using this
    · have e : moreN (c :: C) = 0 := by simp [moreN, hc]
      rw [e]
      simp
      omega
/-- What is read. -/
def getR (C : List Nat) (a : Nat) : Int × Int × Int :=
  if C.length ≤ moreN C then (0, 0, 10) else if 10 < moreN C + 1 ∨ (moreN C + 1 = 10 ∧ 1 < C.getD (moreN C) 0) ∨ (1 < moreN C + 1 ∧ C.getD (moreN C) 0 = 0) then (0, 0, 12)
  else (gv C (moreN C + 1), ((a + moreN C + 1 : Nat) : Int), 0)
def getS (B : List Nat) (a : Int) : Int × Int × Int := if a < 0 ∨ (B.length : Int) < a then (0, 0, 1) else getR (B.drop a.toNat) a.toNat
theorem bits_range (o : BinOp) (x y : Int) : 0 ≤ Go.bits o .u64 x y ∧ Go.bits o .u64 x y ≤ 18446744073709551615 := by
  have h : ∀ z : Int, 0 ≤ IntKind.u64.wrap z ∧ IntKind.u64.wrap z ≤ 18446744073709551615 := fun z => by rw [u64_wrap]; omega
  unfold Go.bits
  exact h _
theorem getR_good (C : List Nat) (a : Nat) : (0 ≤ (getR C a).1 ∧ (getR C a).1 ≤ 18446744073709551615) ∧ ((getR C a).2.2 = 0 → (a : Int) < (getR C a).2.1 ∧ (getR C a).2.1 ≤ (a + C.length : Nat)) := by
  unfold getR
  split
  · exact ⟨by decide, fun h => absurd h (by decide)⟩
  · split
    · exact ⟨by decide, fun h => absurd h (by decide)⟩
    · refine ⟨?_, fun _ => by constructor <;> simp only <;> omega⟩
      simp only [gv, gstep]
      exact bits_range _ _ _

section
variable {C : List Nat} (hC : ∀ x ∈ C, x < 256) (a : Nat) (hlen : a + C.length < 140737488355328)
def fineJ (C : List Nat) (j : Nat) : Bool := if j ≤ 9 then true else if j = 10 then decide (Go.bits .and .u8 ((C.getD 9 0 : Nat) : Int) 127 < 2) else false
include hC hlen
theorem get_more {r : Int × Int × Int} (j : Nat) (hj : j < C.length) (hc : 128 ≤ C.getD j 0) (hr : Ev (fun k => varint_Get.l0 k (a : Int) (gv C (min (j + 1) 10)) (fineJ C (j + 1)) (ints C) (C.length : Int) ((j + 1 : Nat) : Int)) r) :
    Ev (fun k => varint_Get.l0 k (a : Int) (gv C (min j 10)) (fineJ C j) (ints C) (C.length : Int) (j : Int)) r := by
  have e7 : wrap64 (7 * (j : Int)) = ((7 * j : Nat) : Int) := by rw [w64 (by omega) (by omega)]; omega
  have e1 : wrap64 ((j : Int) + 1) = ((j + 1 : Nat) : Int) := succ64 (by omega)
  have c1 : ((j : Int) < (C.length : Int)) = True := eq_true (by omega)
  have c2 : ((0 : Int) ≤ (j : Int)) = True := eq_true (by omega)
  have c3 : ((j : Int) < ((ints C).length : Int)) = True := eq_true (by rw [ints_length]; omega)
  have c4 : ((0 : Int) ≤ ((7 * j : Nat) : Int)) = True := eq_true (by omega)
  have c5 : (((C.getD j 0 : Nat) : Int) > 127) = True := eq_true (by omega)
  refine Ev.step (fun k => ?_) hr
  by_cases h9 : j < 9
  · have d1 : ((j : Int) < 10) = True := eq_true (by omega)
    have d2 : ((j : Int) < 9) = True := eq_true (by omega)
    have d3 : fineJ C j = true := by unfold fineJ; rw [if_pos (by omega)]
    have d4 : fineJ C (j + 1) = true := by unfold fineJ; rw [if_pos (by omega)]
    rw [d3, d4, Nat.min_eq_left (by omega), Nat.min_eq_left (by omega)]
    simp only [varint_Get.l0, c1, c2, c3, d1, d2, e7, c4, e1, rd_ints, c5, if_true, gv, gstep]
  · by_cases h10 : j = 9
    · have d1 : ((j : Int) < 10) = True := eq_true (by omega)
      have d2 : ((j : Int) < 9) = False := eq_false (by omega)
      have d2' : ((j : Int) = 9) = True := eq_true (by omega)
      have d3 : fineJ C j = true := by unfold fineJ; rw [if_pos (by omega)]
      have d4 : fineJ C (j + 1) = decide (Go.bits .and .u8 ((C.getD j 0 : Nat) : Int) 127 < 2) := by unfold fineJ; rw [if_neg (by omega), if_pos (by omega), h10]
      rw [d3, d4, Nat.min_eq_left (by omega), Nat.min_eq_left (by omega)]
      simp only [varint_Get.l0, c1, c2, c3, d1, d2, d2', e7, c4, e1, rd_ints, c5, if_true, if_false, gv, gstep]
    · have d1 : ((j : Int) < 10) = False := eq_false (by omega)
      have d2 : ((j : Int) < 9) = False := eq_false (by omega)
      have d2' : ((j : Int) = 9) = False := eq_false (by omega)
      have d4 : fineJ C (j + 1) = false := by unfold fineJ; rw [if_neg (by omega), if_neg (by omega)]
      rw [d4, Nat.min_eq_right (by omega), Nat.min_eq_right (by omega)]
      cases fineJ C j
      · simp only [varint_Get.l0, c1, c2, c3, d1, d2, d2', e7, c4, e1, rd_ints, c5, if_true, if_false, Bool.false_eq_true]
      · simp only [varint_Get.l0, c1, c2, c3, d1, d2, d2', e7, c4, e1, rd_ints, c5, if_true, if_false]
theorem get_last (hm : moreN C < C.length) : Ev (fun k => varint_Get.l0 k (a : Int) (gv C (min (moreN C) 10)) (fineJ C (moreN C)) (ints C) (C.length : Int) (moreN C : Int)) (getR C a) := by
  have hlt := moreN_at C hm
  unfold getR
  rw [if_neg (by omega)]
  generalize moreN C = j at hm hlt ⊢
  have e7 : wrap64 (7 * (j : Int)) = ((7 * j : Nat) : Int) := by rw [w64 (by omega) (by omega)]; omega
  have c1 : ((j : Int) < (C.length : Int)) = True := eq_true (by omega)
  have c2 : ((0 : Int) ≤ (j : Int)) = True := eq_true (by omega)
  have c3 : ((j : Int) < ((ints C).length : Int)) = True := eq_true (by rw [ints_length]; omega)
  have c4 : ((0 : Int) ≤ ((7 * j : Nat) : Int)) = True := eq_true (by omega)
  have c5 : (((C.getD j 0 : Nat) : Int) > 127) = False := eq_false (by omega)
  have e2 : wrap64 (wrap64 ((a : Int) + (j : Int)) + 1) = ((a + j + 1 : Nat) : Int) := by rw [w64 (x := (a : Int) + j) (by omega) (by omega), w64 (by omega) (by omega)]; omega
  have hand : Go.bits .and .u8 ((C.getD j 0 : Nat) : Int) 127 = ((C.getD j 0 : Nat) : Int) := by
    rw [show (127 : Int) = ((127 : Nat) : Int) from rfl, and8 (by omega) (by decide), show (127 : Nat) = 2 ^ 7 - 1 from rfl, Nat.and_two_pow_sub_one_eq_mod, Nat.mod_eq_of_lt hlt]
  refine Ev.step (f := fun _ => some _) (fun k => ?_) (Ev.now _)
  by_cases h9 : j < 9
  · have d1 : ((j : Int) < 10) = True := eq_true (by omega)
    have d2 : ((j : Int) < 9) = True := eq_true (by omega)
    have d3 : fineJ C j = true := by unfold fineJ; rw [if_pos (by omega)]
    rw [d3, Nat.min_eq_left (by omega)]
    by_cases h0 : 0 < j
    · have d5 : ((j : Int) > 0) = True := eq_true (by omega)
      by_cases hz : C.getD j 0 = 0
      · have d6 : (((C.getD j 0 : Nat) : Int) = 0) = True := eq_true (by omega)
        rw [if_pos (.inr (.inr ⟨by omega, hz⟩))]
        simp only [varint_Get.l0, c1, c2, c3, d1, d2, e7, c4, rd_ints, c5, d5, d6, if_true, if_false]
      · have d6 : (((C.getD j 0 : Nat) : Int) = 0) = False := eq_false (by omega)
        rw [if_neg (by omega)]
        simp only [varint_Get.l0, c1, c2, c3, d1, d2, e7, c4, rd_ints, c5, d5, d6, if_true, if_false, e2, gv, gstep]
    · have d5 : ((j : Int) > 0) = False := eq_false (by omega)
      rw [if_neg (by omega)]
      simp only [varint_Get.l0, c1, c2, c3, d1, d2, e7, c4, rd_ints, c5, d5, if_true, if_false, e2, gv, gstep]
  · by_cases h10 : j = 9
    · have d1 : ((j : Int) < 10) = True := eq_true (by omega)
      have d2 : ((j : Int) < 9) = False := eq_false (by omega)
      have d2' : ((j : Int) = 9) = True := eq_true (by omega)
      have d3 : fineJ C j = true := by unfold fineJ; rw [if_pos (by omega)]
      have d5 : ((j : Int) > 0) = True := eq_true (by omega)
      rw [d3, Nat.min_eq_left (by omega)]
      by_cases h2 : C.getD j 0 < 2
      · have d7 : (Go.bits .and .u8 ((C.getD j 0 : Nat) : Int) 127 < 2) = True := eq_true (by rw [hand]; omega)
        by_cases hz : C.getD j 0 = 0
        · have d6 : (((C.getD j 0 : Nat) : Int) = 0) = True := eq_true (by omega)
          rw [if_pos (.inr (.inr ⟨by omega, hz⟩))]
          simp only [varint_Get.l0, c1, c2, c3, d1, d2, d2', e7, c4, rd_ints, c5, d5, d6, d7, if_true, if_false]
        · have d6 : (((C.getD j 0 : Nat) : Int) = 0) = False := eq_false (by omega)
          rw [if_neg (by omega)]
          simp only [varint_Get.l0, c1, c2, c3, d1, d2, d2', e7, c4, rd_ints, c5, d5, d6, d7, if_true, if_false, e2, gv, gstep]
      · have d7 : (Go.bits .and .u8 ((C.getD j 0 : Nat) : Int) 127 < 2) = False := eq_false (by rw [hand]; omega)
        rw [if_pos (.inr (.inl ⟨by omega, by omega⟩))]
        simp only [varint_Get.l0, c1, c2, c3, d1, d2, d2', e7, c4, rd_ints, c5, d5, d7, if_true, if_false]
    · have d1 : ((j : Int) < 10) = False := eq_false (by omega)
      have d2 : ((j : Int) < 9) = False := eq_false (by omega)
      have d2' : ((j : Int) = 9) = False := eq_false (by omega)
      rw [if_pos (.inl (by omega))]
      cases fineJ C j
      · simp only [varint_Get.l0, c1, c2, c3, d1, d2, d2', e7, c4, rd_ints, c5, if_true, if_false, Bool.false_eq_true]
      · simp only [varint_Get.l0, c1, c2, c3, d1, d2, d2', e7, c4, rd_ints, c5, if_true, if_false]
theorem get_l (d : Nat) : ∀ j, moreN C - j = d → j ≤ moreN C → Ev (fun k => varint_Get.l0 k (a : Int) (gv C (min j 10)) (fineJ C j) (ints C) (C.length : Int) (j : Int)) (getR C a) := by
  have hle := moreN_le C
  induction d with
  | zero =>
    intro j hd hj
    obtain rfl : j = moreN C := by omega
    by_cases hm : moreN C < C.length
    · exact get_last hC a hlen hm
    · refine Ev.step (f := fun _ => some (getR C a)) (fun k => ?_) (Ev.now _)
      rw [varint_Get.l0, if_neg (by omega), getR, if_pos (by omega)]
  | succ d ih =>
    intro j hd hj
    exact get_more hC a hlen j (by omega) (moreN_lt C j (by omega)) (ih (j + 1) (by omega) (by omega))
end
theorem get_ev {B : List Nat} (hB : ∀ x ∈ B, x < 256) (hl : B.length ≤ 140737488355327) (a : Int) : Ev (fun k => varint_Get.f k (ints B) a) (getS B a) := by
  unfold getS
  by_cases h1 : a < 0
  · rw [if_pos (.inl h1)]
    exact Ev.congr (f := fun _ => some _) (fun k => by rw [varint_Get.f, if_pos h1]) (Ev.now _)
  by_cases h2 : a > (B.length : Int)
  · rw [if_pos (.inr h2)]
    exact Ev.congr (f := fun _ => some _) (fun k => by rw [varint_Get.f, if_neg h1, if_pos (by rw [ints_length]; exact h2)]) (Ev.now _)
  rw [if_neg (by omega)]
  obtain ⟨n, rfl⟩ := Int.eq_ofNat_of_zero_le (show 0 ≤ a by omega)
  have h := get_l (C := B.drop n) (fun x hx => hB x (List.mem_of_mem_drop hx)) n (by rw [List.length_drop]; omega) _ 0 rfl (Nat.zero_le _)
  refine Ev.congr (fun k => ?_) h
  rw [varint_Get.f, if_neg h1, if_neg (by rw [ints_length]; exact h2), if_pos (by omega), if_pos (by rw [ints_length]; omega), Int.toNat_natCast, ints_drop, ints_length]
  rfl

end Go.Proofs.Ytodadonpfcefbaa.QDelsReads

namespace Go.Proofs.Ytodadonpfcefbaa.QDelsReads
open Go.RowKit Go.Proofs.YtodadonpfcefbaaW.PrintWords Go.Proofs.YtodadonpfcefbaaW.PrintLast Go.Proofs.YtodadonpfcefbaaW.PrintMore Go.Proofs.Ytodadonpfcefbaa.Base
set_option linter.unusedVariables false
set_option linter.unusedSimpArgs false
set_option linter.unusedSectionVars false

/-! ### a number in few bytes -/
def fewN (n c : Nat) : List Nat := (List.range c).map fun k => (n >>> (8 * k)) % 256
theorem fewN_length (n c : Nat) : (fewN n c).length = c := by simp [fewN]
theorem fewN_succ (n c : Nat) : fewN n (c + 1) = fewN n c ++ [(n >>> (8 * c)) % 256] := by simp [fewN, List.range_succ]
theorem fewN_lt (n c : Nat) : ∀ x ∈ fewN n c, x < 256 := by
  intro x hx
  obtain ⟨k, _, rfl⟩ := List.mem_map.1 hx
  exact Nat.mod_lt _ (by decide)
theorem shr_byte {n : Nat} {j : Nat} (hj : j ≤ 64) : (shr .u64 (n : Int) (j : Int)) % 256 = (((n >>> j) % 256 : Nat) : Int) := by
  rw [shr_nat (show j ≤ IntKind.u64.bits from hj)]
  omega
/-- The program's own loop, to what follows behind it. -/
theorem run_l (L : List Nat) (w i n : Nat) (hi : i < L.length) (hb : L.length < 9223372036854775807) (c : Nat) (hc : c ≤ 8) (hn : i + n < 9223372036854775807) (A : List Nat) (hA : A.length + 8 < 140737488355328) (r : List Int × Int)
    (hr : Ev (fun k => runs_Encode.l0 k (ints L) (w : Int) (ints (A ++ fewN (L.getD i 0) c)) ((i + n : Nat) : Int)) r) (d : Nat) : ∀ j, c - j = d → j ≤ c →
    Ev (fun k => runs_Encode.l1 k (ints L) (w : Int) (ints (A ++ fewN (L.getD i 0) j)) (i : Int) (n : Int) (c : Int) (j : Int)) r := by
  induction d with
  | zero =>
    intro j hd hj
    obtain rfl : j = c := by omega
    refine Ev.step (f := fun k => runs_Encode.l0 k (ints L) (w : Int) (ints (A ++ fewN (L.getD i 0) j)) ((i + n : Nat) : Int)) (fun k => ?_) hr
    rw [runs_Encode.l1, if_neg (by omega), w64 (by omega) (by omega)]
    rfl
  | succ d ih =>
    intro j hd hj
    refine Ev.step (f := fun k => runs_Encode.l1 k (ints L) (w : Int) (ints (A ++ fewN (L.getD i 0) (j + 1))) (i : Int) (n : Int) (c : Int) ((j + 1 : Nat) : Int)) (fun k => ?_) (ih (j + 1) (by omega) (by omega))
    have e8 : wrap64 (8 * (j : Int)) = ((8 * j : Nat) : Int) := by rw [w64 (by omega) (by omega)]; omega
    rw [runs_Encode.l1, if_pos (by omega), if_pos (by omega), if_pos (by rw [ints_length]; omega), e8, if_pos (by omega), if_pos (by rw [ints_length, List.length_append, fewN_length]; omega), rd_ints, shr_byte (by omega), succ64 (by omega)]
    rw [fewN_succ, ← List.append_assoc, ← ints_append (A ++ fewN (L.getD i 0) j)]
    rfl
/-! ### the groups -/
/-- How many groups of eight more there are from a place on. -/
def grpN (L : List Nat) (e : Nat) : Nat := if h : e < L.length ∧ sameN L e < 8 then grpN L (e + 8) + 1 else 0
termination_by L.length - e
decreasing_by omega
theorem grpN_go {L : List Nat} {e : Nat} (h : e < L.length ∧ sameN L e < 8) : grpN L e = grpN L (e + 8) + 1 := by rw [grpN, dif_pos h]
theorem grpN_no {L : List Nat} {e : Nat} (h : ¬ (e < L.length ∧ sameN L e < 8)) : grpN L e = 0 := by rw [grpN, dif_neg h]
theorem grpN_le (L : List Nat) : ∀ d e, L.length - e ≤ d → e + 8 * grpN L e ≤ max e (L.length + 7) := by
  intro d
  induction d using Nat.strongRecOn with
  | _ d ih =>
    intro e hd
    by_cases h : e < L.length ∧ sameN L e < 8
    · rw [grpN_go h]
      have := ih (L.length - (e + 8)) (by omega) (e + 8) (by omega)
      omega
    · rw [grpN_no h]
      omega
/-- The numbers of some groups, zeros behind. -/
def chunkN (L : List Nat) (i g : Nat) : List Nat := (L.drop i).take (8 * g) ++ List.replicate (8 * g - (L.length - i)) 0
theorem chunkN_length (L : List Nat) (i g : Nat) : (chunkN L i g).length = 8 * g := by
  rw [chunkN, List.length_append, List.length_take, List.length_drop, List.length_replicate]
  omega
theorem chunkN_lt {L : List Nat} {B : Nat} (hB : 0 < B) (h : ∀ x ∈ L, x < B) (i g : Nat) : ∀ x ∈ chunkN L i g, x < B := by
  intro x hx
  rcases List.mem_append.1 hx with hx | hx
  · exact h x (List.mem_of_mem_drop (List.mem_of_mem_take hx))
  · rw [List.eq_of_mem_replicate hx]
    exact hB
theorem copy_chunk (L : List Nat) (i g : Nat) : copyL_52 (List.replicate (8 * g) (0 : Int)) (ints (L.drop i)) = ints (chunkN L i g) := by
  unfold copyL_52 chunkN
  have hm : Nat.min (ints (L.drop i)).length (List.replicate (8 * g) (0 : Int)).length = min (L.length - i) (8 * g) := by rw [ints_length, List.length_drop, List.length_replicate]
  rw [hm, ints_take, show List.replicate (8 * g) (0 : Int) = ints (List.replicate (8 * g) 0) from ints_replicate _ 0, ints_drop, ints_append, List.drop_replicate]
  congr 2
  · rcases Nat.le_total (L.length - i) (8 * g) with h | h
    · rw [Nat.min_eq_left h, List.take_of_length_le (by rw [List.length_drop]; omega)]; exact (List.take_of_length_le (by rw [List.length_drop]; omega)).symm
    · rw [Nat.min_eq_right h]
  · congr 1
    omega
/-- What a list is written as, from a place on. -/
def encS (L : List Nat) (w i : Nat) (out : List Nat) : List Nat :=
  if h : i < L.length then
    (if h8 : 8 ≤ sameN L i then encS L w (i + sameN L i) (out ++ putN (2 * sameN L i) ++ fewN (L.getD i 0) ((w + 7) / 8))
    else encS L w (i + 8 * (grpN L (i + 8) + 1)) (out ++ putN (2 * (grpN L (i + 8) + 1) + 1) ++ packed (chunkN L i (grpN L (i + 8) + 1)) w))
  else out
termination_by L.length - i
decreasing_by all_goals omega
theorem encS_end {L : List Nat} {w i : Nat} {out : List Nat} (h : L.length ≤ i) : encS L w i out = out := by rw [encS, dif_neg (by omega)]
theorem encS_run {L : List Nat} {w i : Nat} {out : List Nat} (h : i < L.length) (h8 : 8 ≤ sameN L i) : encS L w i out = encS L w (i + sameN L i) (out ++ putN (2 * sameN L i) ++ fewN (L.getD i 0) ((w + 7) / 8)) := by
  rw [encS, dif_pos h, dif_pos h8]
theorem encS_grp {L : List Nat} {w i : Nat} {out : List Nat} (h : i < L.length) (h8 : ¬ 8 ≤ sameN L i) : encS L w i out = encS L w (i + 8 * (grpN L (i + 8) + 1)) (out ++ putN (2 * (grpN L (i + 8) + 1) + 1) ++ packed (chunkN L i (grpN L (i + 8) + 1)) w) := by
  rw [encS, dif_pos h, dif_neg h8]

/-! ### runs.Encode -/
def encFin (k : Nat) (x0 : List Int) (x1 : Int) (x6 : List Int) (x7 x10 : Int) : Option (List Int × Int) :=
  (if 0 ≤ (wrap64 (x10 - x7)) then (if (wrap64 (x10 - x7) : Int).toNat ≤ 35184372088832 then ((some (List.replicate (wrap64 (x10 - x7) : Int).toNat 0 : List Int)).bind fun y136 => (if 0 ≤ x7 then (if x7 ≤ (x0.length : Int) then ((copy_52.f y136 (x0.drop (x7 : Int).toNat)).bind fun bt140 => ((bits_Pack.f k bt140.2 x1).bind fun bt142 => ((varint_Put.f k ([] : List Int) (IntKind.u64.wrap (wrap64 ((wrap64 (Int.tdiv (wrap64 (2 * (y136.length : Int))) 8)) + 1)))).bind fun t146 => (if x6.length + t146.length < 140737488355328 then ((some (x6 ++ t146 : List Int)).bind fun y149 => (if y149.length + bt142.1.length < 140737488355328 then (runs_Encode.l0 k x0 x1 (y149 ++ bt142.1) x10) else (none))) else (none))))) else (none)) else (none))) else (none)) else (none))
section
variable {L : List Nat} {w : Nat} (hw : w ≤ 32) (hL : ∀ x ∈ L, x < 2 ^ w) (hlen : L.length ≤ 1048600)
include hw hL hlen
theorem packed_chunk_length (i g : Nat) : (packed (chunkN L i g) w).length ≤ 32 * g := by
  rw [packed_length, chunkN_length]
  have : 8 * g * w ≤ 8 * g * 32 := Nat.mul_le_mul_left _ hw
  omega
theorem fin_ev {i g : Nat} {out : List Nat} (hi : i < L.length) (hg : 1 ≤ g) (hg2 : 8 * g ≤ L.length + 7) (hout : out.length ≤ 50000000) {r : List Int × Int}
    (hr : Ev (fun k => runs_Encode.l0 k (ints L) (w : Int) (ints (out ++ putN (2 * g + 1) ++ packed (chunkN L i g) w)) ((i + 8 * g : Nat) : Int)) r) :
    Ev (fun k => encFin k (ints L) (w : Int) (ints out) (i : Int) ((i + 8 * g : Nat) : Int)) r := by
  have e1 : wrap64 (((i + 8 * g : Nat) : Int) - (i : Int)) = ((8 * g : Nat) : Int) := by rw [w64 (by omega) (by omega)]; omega
  have e2 : IntKind.u64.wrap (wrap64 (wrap64 (Int.tdiv (wrap64 (2 * ((8 * g : Nat) : Int))) 8) + 1)) = ((2 * g + 1 : Nat) : Int) := by
    rw [w64 (x := 2 * ((8 * g : Nat) : Int)) (by omega) (by omega), show (2 * ((8 * g : Nat) : Int)) = ((16 * g : Nat) : Int) by omega, show (8 : Int) = ((8 : Nat) : Int) from rfl, tdiv_nat, w64 (x := ((16 * g / 8 : Nat) : Int)) (by omega) (by omega), w64 (by omega) (by omega), wu64 (by omega) (by omega)]
    omega
  have hpl := packed_chunk_length hw hL hlen i g
  have hpt := putN_10 (n := 2 * g + 1) (by omega)
  refine Ev.congr (f := fun k => (bits_Pack.f k (ints (chunkN L i g)) (w : Int)).bind fun bt => ((varint_Put.f k [] ((2 * g + 1 : Nat) : Int)).bind fun t => (if (ints out).length + t.length < 140737488355328 then ((some (ints out ++ t)).bind fun y => (if y.length + bt.1.length < 140737488355328 then runs_Encode.l0 k (ints L) (w : Int) (y ++ bt.1) ((i + 8 * g : Nat) : Int) else none)) else none))) (fun k => ?_) ?_
  · rw [encFin, e1, if_pos (by omega), Int.toNat_natCast, if_pos (by omega), Option.bind_some, if_pos (by omega), if_pos (by rw [ints_length]; omega), copy_52.f, Option.bind_some, Int.toNat_natCast, ints_drop, copy_chunk, List.length_replicate, e2]
  · refine Ev.bind (pack_ev (Nat.le_trans hw (by decide)) (chunkN_lt (Nat.two_pow_pos w) hL i g) (by rw [chunkN_length]; omega)) (Ev.bind (put_ev (by omega)) ?_)
    refine Ev.congr (f := fun k => runs_Encode.l0 k (ints L) (w : Int) (ints (out ++ putN (2 * g + 1) ++ packed (chunkN L i g) w)) ((i + 8 * g : Nat) : Int)) (fun k => ?_) hr
    rw [if_pos (by rw [ints_length, ints_length]; omega), Option.bind_some, if_pos (by rw [List.length_append, ints_length, ints_length, ints_length]; omega), ints_append, ints_append]
theorem runs_l2 {i : Nat} {out : List Nat} (hi : i < L.length) (hout : out.length ≤ 50000000) {r : List Int × Int} : ∀ d e g, L.length - e ≤ d → e = i + 8 * g → 1 ≤ g → 8 * g ≤ L.length + 7 →
    Ev (fun k => runs_Encode.l0 k (ints L) (w : Int) (ints (out ++ putN (2 * (g + grpN L e) + 1) ++ packed (chunkN L i (g + grpN L e)) w)) ((i + 8 * (g + grpN L e) : Nat) : Int)) r →
    Ev (fun k => runs_Encode.l2 k (ints L) (w : Int) (ints out) (i : Int) (e : Int)) r := by
  intro d
  induction d using Nat.strongRecOn with
  | _ d ih =>
    intro e g hd he hg hg2 hr
    by_cases h1 : e < L.length
    · by_cases h2 : sameN L e < 8
      · rw [grpN_go ⟨h1, h2⟩, show g + (grpN L (e + 8) + 1) = g + 1 + grpN L (e + 8) by omega] at hr
        refine Ev.step (f := fun k => (runs_same.f k (ints L) (e : Int)).bind fun t => if t < 8 then runs_Encode.l2 k (ints L) (w : Int) (ints out) (i : Int) (wrap64 ((e : Int) + 8)) else encFin k (ints L) (w : Int) (ints out) (i : Int) (e : Int)) (fun k => ?_) ?_
        · rw [runs_Encode.l2, if_pos (by rw [ints_length]; omega)]
          rfl
        · refine Ev.bind (same_ev L e h1 (by omega)) ?_
          refine Ev.congr (f := fun k => runs_Encode.l2 k (ints L) (w : Int) (ints out) (i : Int) ((e + 8 : Nat) : Int)) (fun k => ?_) (ih (L.length - (e + 8)) (by omega) (e + 8) (g + 1) (Nat.le_refl _) (by omega) (by omega) (by omega) hr)
          rw [if_pos (by omega), w64 (by omega) (by omega)]
          rfl
      · rw [grpN_no (by omega), Nat.add_zero] at hr
        refine Ev.step (f := fun k => (runs_same.f k (ints L) (e : Int)).bind fun t => if t < 8 then runs_Encode.l2 k (ints L) (w : Int) (ints out) (i : Int) (wrap64 ((e : Int) + 8)) else encFin k (ints L) (w : Int) (ints out) (i : Int) (e : Int)) (fun k => ?_) ?_
        · rw [runs_Encode.l2, if_pos (by rw [ints_length]; omega)]
          rfl
        · refine Ev.bind (same_ev L e h1 (by omega)) ?_
          refine Ev.congr (f := fun k => encFin k (ints L) (w : Int) (ints out) (i : Int) ((i + 8 * g : Nat) : Int)) (fun k => ?_) (fin_ev hw hL hlen hi hg hg2 hout hr)
          rw [if_neg (by omega), he]
    · rw [grpN_no (by omega), Nat.add_zero] at hr
      refine Ev.step (f := fun k => encFin k (ints L) (w : Int) (ints out) (i : Int) ((i + 8 * g : Nat) : Int)) (fun k => ?_) (fin_ev hw hL hlen hi hg hg2 hout hr)
      rw [runs_Encode.l2, if_neg (by rw [ints_length]; omega), ← he]
      rfl
theorem runs_l0 : ∀ d i out, L.length - i ≤ d → out.length ≤ 42 * i → i ≤ L.length + 8 → Ev (fun k => runs_Encode.l0 k (ints L) (w : Int) (ints out) (i : Int)) (ints (encS L w i out), 0) := by
  intro d
  induction d using Nat.strongRecOn with
  | _ d ih =>
    intro i out hd hout hi2
    by_cases hi : i < L.length
    · by_cases h8 : 8 ≤ sameN L i
      · have hs := sameN_le L i
        have hpt := putN_10 (n := 2 * sameN L i) (by omega)
        rw [encS_run hi h8]
        refine Ev.step (f := fun k => (runs_same.f k (ints L) (i : Int)).bind fun t => if t ≥ 8 then ((varint_Put.f k ([] : List Int) (IntKind.u64.wrap (wrap64 (2 * t)))).bind fun t125 => if (ints out).length + t125.length < 140737488355328 then runs_Encode.l1 k (ints L) (w : Int) (ints out ++ t125) (i : Int) t (wrap64 (Int.tdiv (wrap64 ((w : Int) + 7)) 8)) 0 else none) else runs_Encode.l2 k (ints L) (w : Int) (ints out) (i : Int) (wrap64 ((i : Int) + 8))) (fun k => by rw [runs_Encode.l0, if_pos (by rw [ints_length]; omega)]) ?_
        refine Ev.bind (same_ev L i hi (by omega)) ?_
        refine Ev.congr (f := fun k => (varint_Put.f k ([] : List Int) ((2 * sameN L i : Nat) : Int)).bind fun t125 => if (ints out).length + t125.length < 140737488355328 then runs_Encode.l1 k (ints L) (w : Int) (ints out ++ t125) (i : Int) (sameN L i : Int) (((w + 7) / 8 : Nat) : Int) 0 else none) (fun k => ?_) ?_
        · rw [if_pos (by omega), w64 (x := 2 * (sameN L i : Int)) (by omega) (by omega), wu64 (by omega) (by omega), w64 (x := (w : Int) + 7) (by omega) (by omega), show (w : Int) + 7 = ((w + 7 : Nat) : Int) by omega, show (8 : Int) = ((8 : Nat) : Int) from rfl, tdiv_nat, w64 (by omega) (by omega)]
          rfl
        · refine Ev.bind (put_ev (by omega)) ?_
          refine Ev.congr (f := fun k => runs_Encode.l1 k (ints L) (w : Int) (ints (out ++ putN (2 * sameN L i) ++ fewN (L.getD i 0) 0)) (i : Int) (sameN L i : Int) (((w + 7) / 8 : Nat) : Int) ((0 : Nat) : Int)) (fun k => ?_) ?_
          · rw [if_pos (by rw [ints_length, ints_length]; omega), ints_append]
            simp [fewN]
          · refine run_l L w i (sameN L i) hi (by omega) ((w + 7) / 8) (by omega) (by omega) _ (by rw [List.length_append]; omega) _ ?_ _ 0 rfl (by omega)
            exact ih (L.length - (i + sameN L i)) (by omega) (i + sameN L i) _ (Nat.le_refl _) (by rw [List.length_append, List.length_append, fewN_length]; omega) (by omega)
      · rw [encS_grp hi h8]
        have hgl := grpN_le L _ (i + 8) (Nat.le_refl _)
        refine Ev.step (f := fun k => (runs_same.f k (ints L) (i : Int)).bind fun t => if t ≥ 8 then ((varint_Put.f k ([] : List Int) (IntKind.u64.wrap (wrap64 (2 * t)))).bind fun t125 => if (ints out).length + t125.length < 140737488355328 then runs_Encode.l1 k (ints L) (w : Int) (ints out ++ t125) (i : Int) t (wrap64 (Int.tdiv (wrap64 ((w : Int) + 7)) 8)) 0 else none) else runs_Encode.l2 k (ints L) (w : Int) (ints out) (i : Int) (wrap64 ((i : Int) + 8))) (fun k => by rw [runs_Encode.l0, if_pos (by rw [ints_length]; omega)]) ?_
        refine Ev.bind (same_ev L i hi (by omega)) ?_
        refine Ev.congr (f := fun k => runs_Encode.l2 k (ints L) (w : Int) (ints out) (i : Int) ((i + 8 : Nat) : Int)) (fun k => ?_) ?_
        · rw [if_neg (by omega), w64 (by omega) (by omega)]
          rfl
        · refine runs_l2 hw hL hlen hi (by omega) _ (i + 8) 1 (Nat.le_refl _) (by omega) (by omega) (by omega) ?_
          rw [Nat.add_comm 1]
          have hpl := packed_chunk_length hw hL hlen i (grpN L (i + 8) + 1)
          have hpt := putN_10 (n := 2 * (grpN L (i + 8) + 1) + 1) (by omega)
          exact ih (L.length - (i + 8 * (grpN L (i + 8) + 1))) (by omega) _ _ (Nat.le_refl _) (by rw [List.length_append, List.length_append]; omega) (by omega)
    · rw [encS_end (by omega)]
      refine Ev.step (f := fun _ => some (ints out, 0)) (fun k => ?_) (Ev.now _)
      rw [runs_Encode.l0, if_neg (by rw [ints_length]; omega)]
end

end Go.Proofs.Ytodadonpfcefbaa.QDelsReads

namespace Go.Proofs.Ytodadonpfcefbaa.QDelsReads
open Go.RowKit Go.Proofs.YtodadonpfcefbaaW.PrintWords Go.Proofs.YtodadonpfcefbaaW.PrintLast Go.Proofs.YtodadonpfcefbaaW.PrintMore Go.Proofs.Ytodadonpfcefbaa.Base
set_option linter.unusedVariables false
set_option linter.unusedSimpArgs false
set_option linter.unusedSectionVars false

/-! ### both -/
def enc (L : List Nat) (w : Int) : List Nat × Int := if w < 0 ∨ 32 < w ∨ w < (wd L : Int) then ([], 15) else (encS L w.toNat 0 [], 0)
theorem enc_ev {L : List Nat} (hL : ∀ x ∈ L, x < 2 ^ 64) (hlen : L.length ≤ 1048600) (w : Int) : Ev (fun k => runs_Encode.f k (ints L) w) (ints (enc L w).1, (enc L w).2) := by
  have hbad : Ev (fun k => runs_Encode.j0 k (ints L) w true) (([] : List Int), 15) := Ev.step (f := fun _ => some (([] : List Int), 15)) (fun k => by rw [runs_Encode.j0, if_pos rfl]) (Ev.now _)
  unfold enc
  by_cases h1 : w < 0
  · rw [if_pos (.inl h1)]
    exact Ev.congr (fun k => by rw [runs_Encode.f, if_pos h1]) hbad
  by_cases h2 : w > 32
  · rw [if_pos (.inr (.inl h2))]
    exact Ev.congr (fun k => by rw [runs_Encode.f, if_neg h1, if_pos h2]) hbad
  refine Ev.congr (fun k => by rw [runs_Encode.f, if_neg h1, if_neg h2]) (Ev.bind (width_ev hL (by omega)) ?_)
  by_cases h3 : w < (wd L : Int)
  · rw [if_pos (.inr (.inr h3)), decide_eq_true h3]
    exact hbad
  · rw [if_neg (by omega), decide_eq_false h3]
    obtain ⟨v, rfl⟩ := Int.eq_ofNat_of_zero_le (show 0 ≤ w by omega)
    refine Ev.step (f := fun k => runs_Encode.l0 k (ints L) (v : Int) (ints []) ((0 : Nat) : Int)) (fun k => by rw [runs_Encode.j0, if_neg (by decide)]; rfl) ?_
    exact runs_l0 (by omega) ((wd_le L v).1 (by omega)) hlen _ 0 [] (Nat.le_refl _) (by simp) (by omega)

end Go.Proofs.Ytodadonpfcefbaa.QDelsReads

namespace Go.Proofs.Ytodadonpfcefbaa.QDelsReads
open Go.RowKit Go.Proofs.YtodadonpfcefbaaW.PrintWords Go.Proofs.YtodadonpfcefbaaW.PrintLast Go.Proofs.YtodadonpfcefbaaW.PrintMore Go.Proofs.Ytodadonpfcefbaa.Base
set_option linter.unusedVariables false
set_option linter.unusedSimpArgs false

theorem encS_bytes {L : List Nat} {w : Nat} : ∀ d i out, L.length - i ≤ d → (∀ x ∈ out, x < 256) → ∀ x ∈ encS L w i out, x < 256 := by
  intro d
  induction d using Nat.strongRecOn with
  | _ d ih =>
    intro i out hd hout
    by_cases hi : i < L.length
    · by_cases h8 : 8 ≤ sameN L i
      · rw [encS_run hi h8]
        refine ih (L.length - (i + sameN L i)) (by omega) _ _ (Nat.le_refl _) fun x hx => ?_
        rcases List.mem_append.1 hx with hx | hx
        · exact (List.mem_append.1 hx).elim (hout x) (putN_lt _ x)
        · exact fewN_lt _ _ x hx
      · rw [encS_grp hi h8]
        refine ih (L.length - (i + 8 * (grpN L (i + 8) + 1))) (by omega) _ _ (Nat.le_refl _) fun x hx => ?_
        rcases List.mem_append.1 hx with hx | hx
        · exact (List.mem_append.1 hx).elim (hout x) (putN_lt _ x)
        · exact packed_lt _ _ x hx
    · rw [encS_end (by omega)]
      exact hout
theorem encS_size {L : List Nat} {w : Nat} (hw : w ≤ 32) (hlen : L.length ≤ 1048600) : ∀ d i out, L.length - i ≤ d → i ≤ L.length + 7 → (encS L w i out).length ≤ out.length + 42 * (L.length + 7 - i) := by
  intro d
  induction d using Nat.strongRecOn with
  | _ d ih =>
    intro i out hd hi2
    by_cases hi : i < L.length
    · by_cases h8 : 8 ≤ sameN L i
      · rw [encS_run hi h8]
        have hs := sameN_le L i
        have hpt := putN_10 (n := 2 * sameN L i) (by omega)
        have := ih (L.length - (i + sameN L i)) (by omega) (i + sameN L i) (out ++ putN (2 * sameN L i) ++ fewN (L.getD i 0) ((w + 7) / 8)) (Nat.le_refl _) (by omega)
        rw [List.length_append, List.length_append, fewN_length] at this
        omega
      · rw [encS_grp hi h8]
        have hgl := grpN_le L _ (i + 8) (Nat.le_refl _)
        have hpt := putN_10 (n := 2 * (grpN L (i + 8) + 1) + 1) (by omega)
        have hpl : (packed (chunkN L i (grpN L (i + 8) + 1)) w).length ≤ 32 * (grpN L (i + 8) + 1) := by
          rw [packed_length, chunkN_length]
          have : 8 * (grpN L (i + 8) + 1) * w ≤ 8 * (grpN L (i + 8) + 1) * 32 := Nat.mul_le_mul_left _ hw
          omega
        have := ih (L.length - (i + 8 * (grpN L (i + 8) + 1))) (by omega) (i + 8 * (grpN L (i + 8) + 1)) (out ++ putN (2 * (grpN L (i + 8) + 1) + 1) ++ packed (chunkN L i (grpN L (i + 8) + 1)) w) (Nat.le_refl _) (by omega)
        rw [List.length_append, List.length_append] at this
        omega
    · rw [encS_end (by omega)]
      omega
theorem enc_bytes (L : List Nat) (w : Int) : ∀ x ∈ (enc L w).1, x < 256 := by
  unfold enc
  split
  · simp
  · exact encS_bytes _ 0 [] (Nat.le_refl _) (by simp)
theorem enc_size {L : List Nat} (hlen : L.length ≤ 1048600) (w : Int) : (enc L w).1.length ≤ 42 * (L.length + 7) := by
  unfold enc
  split
  · simp
  · have := encS_size (L := L) (w := w.toNat) (by omega) hlen _ 0 [] (Nat.le_refl _) (by omega)
    simpa using this
theorem encS_size5 {L : List Nat} {w : Nat} (hw : w ≤ 32) (hlen : L.length ≤ 1000) : ∀ d i out, L.length - i ≤ d → i ≤ L.length + 7 → (encS L w i out).length ≤ out.length + 5 * (L.length + 7 - i) := by
  intro d
  induction d using Nat.strongRecOn with
  | _ d ih =>
    intro i out hd hi2
    by_cases hi : i < L.length
    · by_cases h8 : 8 ≤ sameN L i
      · rw [encS_run hi h8]
        have hs := sameN_le L i
        have hpt := putN_length 1 (2 * sameN L i) (Nat.lt_of_le_of_lt (show 2 * sameN L i ≤ 2000 by omega) (by decide))
        have := ih (L.length - (i + sameN L i)) (by omega) (i + sameN L i) (out ++ putN (2 * sameN L i) ++ fewN (L.getD i 0) ((w + 7) / 8)) (Nat.le_refl _) (by omega)
        rw [List.length_append, List.length_append, fewN_length] at this
        omega
      · rw [encS_grp hi h8]
        have hgl := grpN_le L _ (i + 8) (Nat.le_refl _)
        have hpt := putN_length 1 (2 * (grpN L (i + 8) + 1) + 1) (Nat.lt_of_le_of_lt (show 2 * (grpN L (i + 8) + 1) + 1 ≤ 2000 by omega) (by decide))
        have hpl : (packed (chunkN L i (grpN L (i + 8) + 1)) w).length ≤ 32 * (grpN L (i + 8) + 1) := by
          rw [packed_length, chunkN_length]
          have : 8 * (grpN L (i + 8) + 1) * w ≤ 8 * (grpN L (i + 8) + 1) * 32 := Nat.mul_le_mul_left _ hw
          omega
        have := ih (L.length - (i + 8 * (grpN L (i + 8) + 1))) (by omega) (i + 8 * (grpN L (i + 8) + 1)) (out ++ putN (2 * (grpN L (i + 8) + 1) + 1) ++ packed (chunkN L i (grpN L (i + 8) + 1)) w) (Nat.le_refl _) (by omega)
        rw [List.length_append, List.length_append] at this
        omega
    · rw [encS_end (by omega)]
      omega
theorem enc_size5 {L : List Nat} (hlen : L.length ≤ 1000) (w : Int) : (enc L w).1.length ≤ 5 * (L.length + 7) := by
  unfold enc
  split
  · simp
  · have := encS_size5 (L := L) (w := w.toNat) (by omega) hlen _ 0 [] (Nat.le_refl _) (by omega)
    simpa using this
end Go.Proofs.Ytodadonpfcefbaa.QDelsReads
