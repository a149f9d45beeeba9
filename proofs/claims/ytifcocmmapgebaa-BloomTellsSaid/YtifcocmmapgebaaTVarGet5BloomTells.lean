/- The document's Get. -/
import Derived.Test.YtifcocmmapgebaaTVarGetBloomTells
namespace Go.Proofs.Ytifcocmmapgebaa.QBloomTells
open Go.RowKit Go.Proofs.YtifcocmmapgebaaW.PrintWords Go.Proofs.YtifcocmmapgebaaW.PrintLast Go.Proofs.YtifcocmmapgebaaW.PrintMore Go.Proofs.Ytifcocmmapgebaa.Base
set_option linter.unusedVariables false
set_option linter.unusedSimpArgs false
set_option linter.unusedSectionVars false

section
variable {C : List Nat} (hC : ∀ x ∈ C, x < 256) (a : Nat) (hlen : a + C.length < 281474976710656)
include hC hlen
/-! ### the document's -/
theorem get1_l1 (B : List Nat) (hB : B.drop a = C) (hBl : B.length = a + C.length) (hm : moreN C < C.length) (h10 : moreN C < 10) (d : Nat) : ∀ j, moreN C + 1 - j = d → j ≤ moreN C + 1 →
    Ev (fun k => columbariumref1_Get.l1 k (ints B) (a : Int) ((a + moreN C : Nat) : Int) ((moreN C + 1 : Nat) : Int) (gv C j) (j : Int)) (gv C (moreN C + 1), ((a + moreN C + 1 : Nat) : Int), 0) := by
  induction d with
  | zero =>
    intro j hd hj
    obtain rfl : j = moreN C + 1 := by omega
    refine Ev.step (f := fun _ => some _) (fun k => ?_) (Ev.now _)
    rw [columbariumref1_Get.l1, if_neg (by omega), succ64 (by omega)]
  | succ d ih =>
    intro j hd hj
    have e7 : IntKind.u64.wrap (wrap64 (7 * (j : Int))) = ((7 * j : Nat) : Int) := by rw [w64 (by omega) (by omega), wu64 (by omega) (by omega)]; omega
    have ea : wrap64 ((a : Int) + (j : Int)) = ((a + j : Nat) : Int) := by rw [w64 (by omega) (by omega)]; omega
    have hget : B.getD (a + j) 0 = C.getD j 0 := by rw [← hB, List.getD_eq_getElem?_getD, List.getD_eq_getElem?_getD, List.getElem?_drop]
    refine Ev.step (fun k => ?_) (ih (j + 1) (by omega) (by omega))
    rw [columbariumref1_Get.l1, if_pos (by omega), ea, if_pos (by omega), if_pos (by rw [ints_length]; omega), e7, if_pos (by omega), rd_ints, hget, succ64 (by omega)]
    rfl
theorem get1_j2 (B : List Nat) (hB : B.drop a = C) (hBl : B.length = a + C.length) : Ev (fun k => columbariumref1_Get.j2 k (ints B) (a : Int) ((a + moreN C : Nat) : Int)) (getR C a) := by
  have hle := moreN_le C
  have es : wrap64 (wrap64 (((a + moreN C : Nat) : Int) + 1) - (a : Int)) = ((moreN C + 1 : Nat) : Int) := by rw [succ64 (by omega), w64 (by omega) (by omega)]; omega
  by_cases hm : moreN C < C.length
  · have hlt := moreN_at C hm
    have hget : B.getD (a + moreN C) 0 = C.getD (moreN C) 0 := by rw [← hB, List.getD_eq_getElem?_getD, List.getD_eq_getElem?_getD, List.getElem?_drop]
    have hbad : ∀ s : Int, Ev (fun k => columbariumref1_Get.j3 k (ints B) (a : Int) ((a + moreN C : Nat) : Int) s true) (0, 0, 12) := fun s =>
      Ev.step (f := fun _ => some (0, 0, 12)) (fun k => by rw [columbariumref1_Get.j3, if_pos rfl]) (Ev.now _)
    have hgood : moreN C < 10 → Ev (fun k => columbariumref1_Get.j3 k (ints B) (a : Int) ((a + moreN C : Nat) : Int) ((moreN C + 1 : Nat) : Int) false) (gv C (moreN C + 1), ((a + moreN C + 1 : Nat) : Int), 0) := fun h10 =>
      Ev.step (fun k => by rw [columbariumref1_Get.j3, if_neg (by decide)]; rfl) (get1_l1 hC a hlen B hB hBl hm h10 _ 0 rfl (by omega))
    unfold getR
    rw [if_neg (by omega)]
    by_cases h1 : 10 < moreN C + 1
    · rw [if_pos (.inl h1)]
      refine Ev.step (fun k => ?_) (hbad ((moreN C + 1 : Nat) : Int))
      rw [columbariumref1_Get.j2, if_neg (by rw [ints_length]; omega), es, if_pos (by omega)]
    by_cases h2 : moreN C + 1 = 10
    · by_cases h3 : 1 < C.getD (moreN C) 0
      · rw [if_pos (.inr (.inl ⟨h2, h3⟩))]
        refine Ev.step (fun k => ?_) (hbad ((moreN C + 1 : Nat) : Int))
        rw [columbariumref1_Get.j2, if_neg (by rw [ints_length]; omega), es, if_neg (by omega), if_pos (by omega), if_pos (by omega), if_pos (by rw [ints_length]; omega), rd_ints, hget, if_pos (by omega)]
      · by_cases h4 : C.getD (moreN C) 0 = 0
        · rw [if_pos (.inr (.inr ⟨by omega, h4⟩))]
          refine Ev.step (fun k => ?_) (hbad ((moreN C + 1 : Nat) : Int))
          rw [columbariumref1_Get.j2, if_neg (by rw [ints_length]; omega), es, if_neg (by omega), if_pos (by omega), if_pos (by omega), if_pos (by rw [ints_length]; omega), rd_ints, hget, if_neg (by omega), if_pos (by omega), h4]
          rfl
        · rw [if_neg (by omega)]
          refine Ev.step (fun k => ?_) (hgood (by omega))
          rw [columbariumref1_Get.j2, if_neg (by rw [ints_length]; omega), es, if_neg (by omega), if_pos (by omega), if_pos (by omega), if_pos (by rw [ints_length]; omega), rd_ints, hget, if_neg (by omega), if_pos (by omega), show (((C.getD (moreN C) 0 : Nat) : Int) == 0) = false from beq_false_of_ne (by omega)]
    · by_cases h5 : 1 < moreN C + 1
      · by_cases h4 : C.getD (moreN C) 0 = 0
        · rw [if_pos (.inr (.inr ⟨by omega, h4⟩))]
          refine Ev.step (fun k => ?_) (hbad ((moreN C + 1 : Nat) : Int))
          rw [columbariumref1_Get.j2, if_neg (by rw [ints_length]; omega), es, if_neg (by omega), if_neg (by omega), if_pos (by omega), if_pos (by omega), if_pos (by rw [ints_length]; omega), rd_ints, hget, h4]
          rfl
        · rw [if_neg (by omega)]
          refine Ev.step (fun k => ?_) (hgood (by omega))
          rw [columbariumref1_Get.j2, if_neg (by rw [ints_length]; omega), es, if_neg (by omega), if_neg (by omega), if_pos (by omega), if_pos (by omega), if_pos (by rw [ints_length]; omega), rd_ints, hget, show (((C.getD (moreN C) 0 : Nat) : Int) == 0) = false from beq_false_of_ne (by omega)]
      · rw [if_neg (by omega)]
        refine Ev.step (fun k => ?_) (hgood (by omega))
        rw [columbariumref1_Get.j2, if_neg (by rw [ints_length]; omega), es, if_neg (by omega), if_neg (by omega), if_neg (by omega)]
  · refine Ev.step (f := fun _ => some (getR C a)) (fun k => ?_) (Ev.now _)
    rw [columbariumref1_Get.j2, if_pos (by rw [ints_length]; omega), getR, if_pos (by omega)]
theorem get1_l0 (B : List Nat) (hB : B.drop a = C) (hBl : B.length = a + C.length) (d : Nat) : ∀ j, moreN C - j = d → j ≤ moreN C → Ev (fun k => columbariumref1_Get.l0 k (ints B) (a : Int) ((a + j : Nat) : Int)) (getR C a) := by
  have hle := moreN_le C
  have hget : ∀ j, B.getD (a + j) 0 = C.getD j 0 := fun j => by rw [← hB, List.getD_eq_getElem?_getD, List.getD_eq_getElem?_getD, List.getElem?_drop]
  induction d with
  | zero =>
    intro j hd hj
    obtain rfl : j = moreN C := by omega
    refine Ev.step (fun k => ?_) (get1_j2 hC a hlen B hB hBl)
    by_cases hm : moreN C < C.length
    · have hlt := moreN_at C hm
      rw [columbariumref1_Get.l0, if_pos (by rw [ints_length]; omega), if_pos (by omega), rd_ints, hget, if_neg (by omega)]
    · rw [columbariumref1_Get.l0, if_neg (by rw [ints_length]; omega)]
  | succ d ih =>
    intro j hd hj
    have hge := moreN_lt C j (by omega)
    refine Ev.step (fun k => ?_) (ih (j + 1) (by omega) (by omega))
    rw [columbariumref1_Get.l0, if_pos (by rw [ints_length]; omega), if_pos (by omega), rd_ints, hget, if_pos (by omega), succ64 (by omega)]
    rfl
end
theorem get1_ev {B : List Nat} (hB : ∀ x ∈ B, x < 256) (hl : B.length ≤ 281474976710655) (a : Int) : Ev (fun k => columbariumref1_Get.f k (ints B) a) (getS B a) := by
  have hbad : Ev (fun k => columbariumref1_Get.j0 k (ints B) a true) (0, 0, 1) := Ev.step (f := fun _ => some (0, 0, 1)) (fun k => by rw [columbariumref1_Get.j0, if_pos rfl]) (Ev.now _)
  unfold getS
  by_cases h1 : a < 0
  · rw [if_pos (.inl h1)]
    exact Ev.congr (fun k => by rw [columbariumref1_Get.f, if_pos h1]) hbad
  by_cases h2 : a > (B.length : Int)
  · rw [if_pos (.inr h2)]
    exact Ev.congr (fun k => by rw [columbariumref1_Get.f, if_neg h1, decide_eq_true (by rw [ints_length]; exact h2)]) hbad
  rw [if_neg (by omega)]
  obtain ⟨n, rfl⟩ := Int.eq_ofNat_of_zero_le (show 0 ≤ a by omega)
  refine Ev.congr (fun k => by rw [columbariumref1_Get.f, if_neg h1, decide_eq_false (by rw [ints_length]; exact h2)]) ?_
  refine Ev.step (fun k => by rw [columbariumref1_Get.j0, if_neg (by decide)]) ?_
  exact get1_l0 (C := B.drop n) (fun x hx => hB x (List.mem_of_mem_drop hx)) n (by rw [List.length_drop]; omega) B rfl (by rw [List.length_drop]; omega) _ 0 rfl (Nat.zero_le _)

end Go.Proofs.Ytifcocmmapgebaa.QBloomTells
