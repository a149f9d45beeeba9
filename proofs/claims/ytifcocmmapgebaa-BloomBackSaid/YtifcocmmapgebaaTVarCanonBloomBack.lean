/- A number that is read is written with the bytes that were read, as printed for BloomBack. -/
import Derived.Test.YtifcocmmapgebaaTVarTripBloomBack
namespace Go.Proofs.Ytifcocmmapgebaa.QBloomBack
open Go.RowKit Go.Proofs.YtifcocmmapgebaaW.PrintWords Go.Proofs.YtifcocmmapgebaaW.PrintLast Go.Proofs.YtifcocmmapgebaaW.PrintMore Go.Proofs.Ytifcocmmapgebaa.Base
set_option linter.unusedVariables false
set_option linter.unusedSimpArgs false

/-- The number of the first digits. -/
def dv : List Nat → Nat → Nat
  | _, 0 => 0
  | [], _ + 1 => 0
  | c :: C, j + 1 => c % 128 + 128 * dv C j
theorem dv_succ : ∀ (j : Nat) (C : List Nat), dv C (j + 1) = dv C j + 128 ^ j * (C.getD j 0 % 128)
  | 0, [] => by simp [dv]
  | 0, c :: C => by simp [dv]
  | j + 1, [] => by simp [dv]
  | j + 1, c :: C => by
    rw [dv, dv_succ j C, dv, Nat.pow_succ, List.getD_cons_succ, Nat.mul_add]
    rw [Nat.mul_comm (128 ^ j) 128, Nat.mul_assoc]
    omega
theorem dv_lt : ∀ (j : Nat) (C : List Nat), dv C j < 128 ^ j
  | 0, C => by simp [dv]
  | j + 1, [] => by simp [dv]; exact Nat.pow_pos (by decide)
  | j + 1, c :: C => by
    have := dv_lt j C
    rw [dv, Nat.pow_succ]
    omega
theorem and127 {c : Nat} (h : c < 256) : Go.bits .and .u8 (c : Int) 127 = ((c % 128 : Nat) : Int) := by
  rw [show (127 : Int) = ((127 : Nat) : Int) from rfl, and8 h (by decide), show (127 : Nat) = 2 ^ 7 - 1 from rfl, Nat.and_two_pow_sub_one_eq_mod]
theorem gv_dv {C : List Nat} (hC : ∀ x ∈ C, x < 256) : ∀ j, (j ≤ 9 ∨ (j = 10 ∧ C.getD 9 0 < 2)) → gv C j = ((dv C j : Nat) : Int)
  | 0, _ => by simp [gv, dv]
  | j + 1, h => by
    have ih := gv_dv hC j (.inl (by omega))
    have hc : C.getD j 0 < 256 := getD_lt (by decide) hC j
    have hlt := dv_lt j C
    have hp : 128 ^ j = 2 ^ (7 * j) := by rw [Nat.pow_mul]
    have hx : (C.getD j 0 % 128) * 2 ^ (7 * j) < 2 ^ 64 := by
      rcases h with h | ⟨h, h2⟩
      · have h1 : 2 ^ (7 * j) ≤ 2 ^ 56 := Nat.pow_le_pow_right (by decide) (by omega)
        have h3 : C.getD j 0 % 128 ≤ 127 := by omega
        exact Nat.lt_of_le_of_lt (Nat.mul_le_mul h3 h1) (by decide)
      · obtain rfl : j = 9 := by omega
        have h3 : C.getD 9 0 % 128 ≤ 1 := by omega
        exact Nat.lt_of_le_of_lt (Nat.mul_le_mul_right _ h3) (by decide)
    have hd : dv C j < 2 ^ 64 := by
      have h1 : 128 ^ j ≤ 128 ^ 9 := Nat.pow_le_pow_right (by decide) (by omega)
      exact Nat.lt_of_lt_of_le hlt (Nat.le_trans h1 (by decide))
    have hw : IntKind.u64.wrap ((C.getD j 0 % 128 : Nat) : Int) = ((C.getD j 0 % 128 : Nat) : Int) := wu64 (by omega) (by omega)
    have hi : 7 * j ≤ 64 := by omega
    rw [gv, ih, gstep, and127 hc, hw, shl64 hi, Nat.shiftLeft_eq, Nat.mod_eq_of_lt hx, or64 hd hx, ← Nat.shiftLeft_eq, or_shift (by rw [← hp]; exact hlt), dv_succ, hp]
theorem put_dv : ∀ (j : Nat) (C : List Nat), j < C.length → (∀ i, i < j → 128 ≤ C.getD i 0 ∧ C.getD i 0 < 256) → C.getD j 0 < 128 → (0 < j → C.getD j 0 ≠ 0) → putN (dv C (j + 1)) = C.take (j + 1) ∧ (0 < C.getD j 0 → 0 < dv C (j + 1))
  | 0, [], h, _, _, _ => absurd h (by simp)
  | 0, c :: C, _, _, h, _ => by
    have h : c < 128 := h
    have e : dv (c :: C) (0 + 1) = c := by
      rw [dv, dv]
      omega
    rw [e, putN_small h]
    exact ⟨rfl, fun h => h⟩
  | j + 1, [], h, _, _, _ => absurd h (by simp)
  | j + 1, c :: C, h, hm, hl, hz => by
    obtain ⟨h1, h2⟩ := hm 0 (Nat.zero_lt_succ j)
    have h1 : 128 ≤ c := h1
    have h2 : c < 256 := h2
    obtain ⟨e1, e2⟩ := put_dv j C (by simpa using h) (fun i hi => by simpa using hm (i + 1) (by omega)) (by simpa using hl) (fun _ => by simpa using hz (by omega))
    have e3 : 0 < dv C (j + 1) := e2 (Nat.pos_of_ne_zero (by simpa using hz (by omega)))
    rw [dv, putN_big (by omega), show (c % 128 + 128 * dv C (j + 1)) % 128 + 128 = c by omega, show (c % 128 + 128 * dv C (j + 1)) / 128 = dv C (j + 1) by omega, e1]
    exact ⟨rfl, fun _ => by omega⟩
/-- What is read as a number is what is written for it. -/
theorem getR_put {C : List Nat} (hC : ∀ x ∈ C, x < 256) {v q : Int} (h : getR C 0 = (v, q, 0)) : ∃ (n m : Nat), v = (n : Int) ∧ q = (m : Int) ∧ m ≤ C.length ∧ C.take m = putN n := by
  unfold getR at h
  by_cases h1 : C.length ≤ moreN C
  · rw [if_pos h1] at h
    have := (Prod.mk.inj (Prod.mk.inj h).2).2
    exact absurd this (by decide)
  rw [if_neg h1] at h
  by_cases h2 : 10 < moreN C + 1 ∨ (moreN C + 1 = 10 ∧ 1 < C.getD (moreN C) 0) ∨ (1 < moreN C + 1 ∧ C.getD (moreN C) 0 = 0)
  · rw [if_pos h2] at h
    have := (Prod.mk.inj (Prod.mk.inj h).2).2
    exact absurd this (by decide)
  rw [if_neg h2] at h
  obtain ⟨e1, e2⟩ := Prod.mk.inj h
  obtain ⟨e2, _⟩ := Prod.mk.inj e2
  have hm := fun i hi => moreN_lt C i hi
  have hat := moreN_at C (by omega)
  generalize moreN C = j at *
  have hg := gv_dv hC (j + 1) (by
    by_cases h3 : j = 9
    · subst h3
      exact .inr ⟨rfl, by omega⟩
    · exact .inl (by omega))
  obtain ⟨e3, _⟩ := put_dv j C (by omega) (fun i hi => ⟨hm i hi, getD_lt (by decide) hC i⟩) hat (fun h0 e => h2 (.inr (.inr ⟨by omega, e⟩)))
  exact ⟨dv C (j + 1), j + 1, by rw [← e1, hg], by rw [← e2]; simp, by omega, e3.symm⟩

end Go.Proofs.Ytifcocmmapgebaa.QBloomBack
