/- A number is read: the program's Get and the document's come to the same. -/
import Derived.Test.YtifcocmmapgebaaTVarPutBloomTells
namespace Go.Proofs.Ytifcocmmapgebaa.QBloomTells
open Go.RowKit Go.Proofs.YtifcocmmapgebaaW.PrintWords Go.Proofs.YtifcocmmapgebaaW.PrintLast Go.Proofs.YtifcocmmapgebaaW.PrintMore Go.Proofs.Ytifcocmmapgebaa.Base
set_option linter.unusedVariables false
set_option linter.unusedSimpArgs false
set_option linter.unusedSectionVars false

def gstep (C : List Nat) (j : Nat) (v : Int) : Int := Go.bits .or .u64 v (shl .u64 (IntKind.u64.wrap (Go.bits .and .u8 ((C.getD j 0 : Nat) : Int) 127)) ((7 * j : Nat) : Int))
/-- The number of the first bytes. -/
def gv (C : List Nat) : Nat → Int
  | 0 => 0
  | j + 1 => gstep C j (gv C j)
/-- How many bytes at the beginning say that there are more. -/
def moreN (C : List Nat) : Nat := (C.takeWhile (fun x => decide (128 ≤ x))).length
theorem moreN_le (C : List Nat) : moreN C ≤ C.length := (List.takeWhile_sublist _).length_le
theorem moreN_lt : ∀ (C : List Nat) (j : Nat), j < moreN C → 128 ≤ C.getD j 0
  | [], j, h => by simp [moreN] at h
  | c :: C, j, h => by
    by_cases hc : 128 ≤ c
    · cases j with
      | zero => simpa using hc
      | succ j =>
        have := moreN_lt C j (by simp [moreN, hc] at h ⊢; omega)
        simpa using this
    · simp [moreN, hc] at h
theorem moreN_at : ∀ (C : List Nat), moreN C < C.length → C.getD (moreN C) 0 < 128
  | [], h => by simp at h
  | c :: C, h => by
    by_cases hc : 128 ≤ c
    · have e : moreN (c :: C) = moreN C + 1 := by simp [moreN, hc]
      rw [e] at h ⊢
      have := moreN_at C (by simpa using h)
      simpa using this
    · have e : moreN (c :: C) = 0 := by simp [moreN, hc]
      rw [e]
      simp
      omega
/-- What is read. -/
def getR (C : List Nat) (a : Nat) : Int × Int × Int :=
  if C.length ≤ moreN C then (0, 0, 10) else if 10 < moreN C + 1 ∨ (moreN C + 1 = 10 ∧ 1 < C.getD (moreN C) 0) ∨ (1 < moreN C + 1 ∧ C.getD (moreN C) 0 = 0) then (0, 0, 12)
  else (gv C (moreN C + 1), ((a + moreN C + 1 : Nat) : Int), 0)
def getS (B : List Nat) (a : Int) : Int × Int × Int := if a < 0 ∨ (B.length : Int) < a then (0, 0, 1) else getR (B.drop a.toNat) a.toNat
theorem bits_range (o : BinOp) (x y : Int) : 0 ≤ Go.bits o .u64 x y ∧ Go.bits o .u64 x y ≤ 18446744073709551615 := by
  have h : ∀ z : Int, 0 ≤ IntKind.u64.wrap z ∧ IntKind.u64.wrap z ≤ 18446744073709551615 := fun z => by rw [u64_wrap]; omega
  unfold Go.bits
  exact h _
theorem getR_good (C : List Nat) (a : Nat) : (0 ≤ (getR C a).1 ∧ (getR C a).1 ≤ 18446744073709551615) ∧ ((getR C a).2.2 = 0 → (a : Int) < (getR C a).2.1 ∧ (getR C a).2.1 ≤ (a + C.length : Nat)) := by
  unfold getR
  split
  · exact ⟨by decide, fun h => absurd h (by decide)⟩
  · split
    · exact ⟨by decide, fun h => absurd h (by decide)⟩
    · refine ⟨?_, fun _ => by constructor <;> simp only <;> omega⟩
      simp only [gv, gstep]
      exact bits_range _ _ _

section
variable {C : List Nat} (hC : ∀ x ∈ C, x < 256) (a : Nat) (hlen : a + C.length < 281474976710656)
def fineJ (C : List Nat) (j : Nat) : Bool := if j ≤ 9 then true else if j = 10 then decide (Go.bits .and .u8 ((C.getD 9 0 : Nat) : Int) 127 < 2) else false
include hC hlen
theorem get_more {r : Int × Int × Int} (j : Nat) (hj : j < C.length) (hc : 128 ≤ C.getD j 0) (hr : Ev (fun k => varint_Get.l0 k (a : Int) (gv C (min (j + 1) 10)) (fineJ C (j + 1)) (ints C) (C.length : Int) ((j + 1 : Nat) : Int)) r) :
    Ev (fun k => varint_Get.l0 k (a : Int) (gv C (min j 10)) (fineJ C j) (ints C) (C.length : Int) (j : Int)) r := by
  have e7 : wrap64 (7 * (j : Int)) = ((7 * j : Nat) : Int) := by rw [w64 (by omega) (by omega)]; omega
  have e1 : wrap64 ((j : Int) + 1) = ((j + 1 : Nat) : Int) := succ64 (by omega)
  have c1 : ((j : Int) < (C.length : Int)) = True := eq_true (by omega)
  have c2 : ((0 : Int) ≤ (j : Int)) = True := eq_true (by omega)
  have c3 : ((j : Int) < ((ints C).length : Int)) = True := eq_true (by rw [ints_length]; omega)
  have c4 : ((0 : Int) ≤ ((7 * j : Nat) : Int)) = True := eq_true (by omega)
  have c5 : (((C.getD j 0 : Nat) : Int) > 127) = True := eq_true (by omega)
  refine Ev.step (fun k => ?_) hr
  by_cases h9 : j < 9
  · have d1 : ((j : Int) < 10) = True := eq_true (by omega)
    have d2 : ((j : Int) < 9) = True := eq_true (by omega)
    have d3 : fineJ C j = true := by unfold fineJ; rw [if_pos (by omega)]
    have d4 : fineJ C (j + 1) = true := by unfold fineJ; rw [if_pos (by omega)]
    rw [d3, d4, Nat.min_eq_left (by omega), Nat.min_eq_left (by omega)]
    simp only [varint_Get.l0, c1, c2, c3, d1, d2, e7, c4, e1, rd_ints, c5, if_true, gv, gstep]
  · by_cases h10 : j = 9
    · have d1 : ((j : Int) < 10) = True := eq_true (by omega)
      have d2 : ((j : Int) < 9) = False := eq_false (by omega)
      have d2' : ((j : Int) = 9) = True := eq_true (by omega)
      have d3 : fineJ C j = true := by unfold fineJ; rw [if_pos (by omega)]
      have d4 : fineJ C (j + 1) = decide (Go.bits .and .u8 ((C.getD j 0 : Nat) : Int) 127 < 2) := by unfold fineJ; rw [if_neg (by omega), if_pos (by omega), h10]
      rw [d3, d4, Nat.min_eq_left (by omega), Nat.min_eq_left (by omega)]
      simp only [varint_Get.l0, c1, c2, c3, d1, d2, d2', e7, c4, e1, rd_ints, c5, if_true, if_false, gv, gstep]
    · have d1 : ((j : Int) < 10) = False := eq_false (by omega)
      have d2 : ((j : Int) < 9) = False := eq_false (by omega)
      have d2' : ((j : Int) = 9) = False := eq_false (by omega)
      have d4 : fineJ C (j + 1) = false := by unfold fineJ; rw [if_neg (by omega), if_neg (by omega)]
      rw [d4, Nat.min_eq_right (by omega), Nat.min_eq_right (by omega)]
      cases fineJ C j
      · simp only [varint_Get.l0, c1, c2, c3, d1, d2, d2', e7, c4, e1, rd_ints, c5, if_true, if_false, Bool.false_eq_true]
      · simp only [varint_Get.l0, c1, c2, c3, d1, d2, d2', e7, c4, e1, rd_ints, c5, if_true, if_false]
theorem get_last (hm : moreN C < C.length) : Ev (fun k => varint_Get.l0 k (a : Int) (gv C (min (moreN C) 10)) (fineJ C (moreN C)) (ints C) (C.length : Int) (moreN C : Int)) (getR C a) := by
  have hlt := moreN_at C hm
  unfold getR
  rw [if_neg (by omega)]
  generalize moreN C = j at hm hlt ⊢
  have e7 : wrap64 (7 * (j : Int)) = ((7 * j : Nat) : Int) := by rw [w64 (by omega) (by omega)]; omega
  have c1 : ((j : Int) < (C.length : Int)) = True := eq_true (by omega)
  have c2 : ((0 : Int) ≤ (j : Int)) = True := eq_true (by omega)
  have c3 : ((j : Int) < ((ints C).length : Int)) = True := eq_true (by rw [ints_length]; omega)
  have c4 : ((0 : Int) ≤ ((7 * j : Nat) : Int)) = True := eq_true (by omega)
  have c5 : (((C.getD j 0 : Nat) : Int) > 127) = False := eq_false (by omega)
  have e2 : wrap64 (wrap64 ((a : Int) + (j : Int)) + 1) = ((a + j + 1 : Nat) : Int) := by rw [w64 (x := (a : Int) + j) (by omega) (by omega), w64 (by omega) (by omega)]; omega
  have hand : Go.bits .and .u8 ((C.getD j 0 : Nat) : Int) 127 = ((C.getD j 0 : Nat) : Int) := by
    rw [show (127 : Int) = ((127 : Nat) : Int) from rfl, and8 (by omega) (by decide), show (127 : Nat) = 2 ^ 7 - 1 from rfl, Nat.and_two_pow_sub_one_eq_mod, Nat.mod_eq_of_lt hlt]
  refine Ev.step (f := fun _ => some _) (fun k => ?_) (Ev.now _)
  by_cases h9 : j < 9
  · have d1 : ((j : Int) < 10) = True := eq_true (by omega)
    have d2 : ((j : Int) < 9) = True := eq_true (by omega)
    have d3 : fineJ C j = true := by unfold fineJ; rw [if_pos (by omega)]
    rw [d3, Nat.min_eq_left (by omega)]
    by_cases h0 : 0 < j
    · have d5 : ((j : Int) > 0) = True := eq_true (by omega)
      by_cases hz : C.getD j 0 = 0
      · have d6 : (((C.getD j 0 : Nat) : Int) = 0) = True := eq_true (by omega)
        rw [if_pos (.inr (.inr ⟨by omega, hz⟩))]
        simp only [varint_Get.l0, c1, c2, c3, d1, d2, e7, c4, rd_ints, c5, d5, d6, if_true, if_false]
      · have d6 : (((C.getD j 0 : Nat) : Int) = 0) = False := eq_false (by omega)
        rw [if_neg (by omega)]
        simp only [varint_Get.l0, c1, c2, c3, d1, d2, e7, c4, rd_ints, c5, d5, d6, if_true, if_false, e2, gv, gstep]
    · have d5 : ((j : Int) > 0) = False := eq_false (by omega)
      rw [if_neg (by omega)]
      simp only [varint_Get.l0, c1, c2, c3, d1, d2, e7, c4, rd_ints, c5, d5, if_true, if_false, e2, gv, gstep]
  · by_cases h10 : j = 9
    · have d1 : ((j : Int) < 10) = True := eq_true (by omega)
      have d2 : ((j : Int) < 9) = False := eq_false (by omega)
      have d2' : ((j : Int) = 9) = True := eq_true (by omega)
      have d3 : fineJ C j = true := by unfold fineJ; rw [if_pos (by omega)]
      have d5 : ((j : Int) > 0) = True := eq_true (by omega)
      rw [d3, Nat.min_eq_left (by omega)]
      by_cases h2 : C.getD j 0 < 2
      · have d7 : (Go.bits .and .u8 ((C.getD j 0 : Nat) : Int) 127 < 2) = True := eq_true (by rw [hand]; omega)
        by_cases hz : C.getD j 0 = 0
        · have d6 : (((C.getD j 0 : Nat) : Int) = 0) = True := eq_true (by omega)
          rw [if_pos (.inr (.inr ⟨by omega, hz⟩))]
          simp only [varint_Get.l0, c1, c2, c3, d1, d2, d2', e7, c4, rd_ints, c5, d5, d6, d7, if_true, if_false]
        · have d6 : (((C.getD j 0 : Nat) : Int) = 0) = False := eq_false (by omega)
          rw [if_neg (by omega)]
          simp only [varint_Get.l0, c1, c2, c3, d1, d2, d2', e7, c4, rd_ints, c5, d5, d6, d7, if_true, if_false, e2, gv, gstep]
      · have d7 : (Go.bits .and .u8 ((C.getD j 0 : Nat) : Int) 127 < 2) = False := eq_false (by rw [hand]; omega)
        rw [if_pos (.inr (.inl ⟨by omega, by omega⟩))]
        simp only [varint_Get.l0, c1, c2, c3, d1, d2, d2', e7, c4, rd_ints, c5, d5, d7, if_true, if_false]
    · have d1 : ((j : Int) < 10) = False := eq_false (by omega)
      have d2 : ((j : Int) < 9) = False := eq_false (by omega)
      have d2' : ((j : Int) = 9) = False := eq_false (by omega)
      rw [if_pos (.inl (by omega))]
      cases fineJ C j
      · simp only [varint_Get.l0, c1, c2, c3, d1, d2, d2', e7, c4, rd_ints, c5, if_true, if_false, Bool.false_eq_true]
      · simp only [varint_Get.l0, c1, c2, c3, d1, d2, d2', e7, c4, rd_ints, c5, if_true, if_false]
theorem get_l (d : Nat) : ∀ j, moreN C - j = d → j ≤ moreN C → Ev (fun k => varint_Get.l0 k (a : Int) (gv C (min j 10)) (fineJ C j) (ints C) (C.length : Int) (j : Int)) (getR C a) := by
  have hle := moreN_le C
  induction d with
  | zero =>
    intro j hd hj
    obtain rfl : j = moreN C := by omega
    by_cases hm : moreN C < C.length
    · exact get_last hC a hlen hm
    · refine Ev.step (f := fun _ => some (getR C a)) (fun k => ?_) (Ev.now _)
      rw [varint_Get.l0, if_neg (by omega), getR, if_pos (by omega)]
  | succ d ih =>
    intro j hd hj
    exact get_more hC a hlen j (by omega) (moreN_lt C j (by omega)) (ih (j + 1) (by omega) (by omega))
end
theorem get_ev {B : List Nat} (hB : ∀ x ∈ B, x < 256) (hl : B.length ≤ 281474976710655) (a : Int) : Ev (fun k => varint_Get.f k (ints B) a) (getS B a) := by
  unfold getS
  by_cases h1 : a < 0
  · rw [if_pos (.inl h1)]
    exact Ev.congr (f := fun _ => some _) (fun k => by rw [varint_Get.f, if_pos h1]) (Ev.now _)
  by_cases h2 : a > (B.length : Int)
  · rw [if_pos (.inr h2)]
    exact Ev.congr (f := fun _ => some _) (fun k => by rw [varint_Get.f, if_neg h1, if_pos (by rw [ints_length]; exact h2)]) (Ev.now _)
  rw [if_neg (by omega)]
  obtain ⟨n, rfl⟩ := Int.eq_ofNat_of_zero_le (show 0 ≤ a by omega)
  have h := get_l (C := B.drop n) (fun x hx => hB x (List.mem_of_mem_drop hx)) n (by rw [List.length_drop]; omega) _ 0 rfl (Nat.zero_le _)
  refine Ev.congr (fun k => ?_) h
  rw [varint_Get.f, if_neg h1, if_neg (by rw [ints_length]; exact h2), if_pos (by omega), if_pos (by rw [ints_length]; omega), Int.toNat_natCast, ints_drop, ints_length]
  rfl

end Go.Proofs.Ytifcocmmapgebaa.QBloomTells
