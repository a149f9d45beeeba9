/- A number that was put is got. -/
import Derived.Test.YtllboaghcfeepaaTVarGetDictTells
namespace Go.Proofs.Ytllboaghcfeepaa.QDictTells
open Go.RowKit Go.Proofs.YtllboaghcfeepaaW.PrintWords Go.Proofs.YtllboaghcfeepaaW.PrintLast Go.Proofs.YtllboaghcfeepaaW.PrintMore Go.Proofs.Ytllboaghcfeepaa.Base
set_option linter.unusedVariables false
set_option linter.unusedSimpArgs false
set_option linter.unusedSectionVars false

/-! ### a number that was put is got -/
theorem moreN_put : ∀ (v : Nat) (R : List Nat), moreN (putN v ++ R) + 1 = (putN v).length := by
  intro v
  induction v using Nat.strongRecOn with
  | _ v ih =>
    intro R
    by_cases h : v < 128
    · rw [putN_small h]
      simp [moreN, show ¬ 128 ≤ v by omega]
    · have := ih (v / 128) (by omega) R
      rw [putN_big h]
      simp only [moreN, List.cons_append, List.length_cons] at this ⊢
      rw [List.takeWhile_cons_of_pos (by simp), List.length_cons]
      omega
theorem putN_pos (v : Nat) : 0 < (putN v).length := by
  have := moreN_put v []
  omega
theorem putN_last : ∀ v : Nat, 0 < v → (putN v).getD ((putN v).length - 1) 0 ≠ 0 := by
  intro v
  induction v using Nat.strongRecOn with
  | _ v ih =>
    intro h0
    by_cases h : v < 128
    · rw [putN_small h]
      simpa using by omega
    · have := ih (v / 128) (by omega) (by omega)
      have hp := putN_pos (v / 128)
      rw [putN_big h, List.length_cons, Nat.add_sub_cancel]
      obtain ⟨m, hm⟩ : ∃ m, (putN (v / 128)).length = m + 1 := ⟨(putN (v / 128)).length - 1, by omega⟩
      rw [hm] at this ⊢
      rw [List.getD_cons_succ]
      simpa using this
theorem putN_digit : ∀ (j v : Nat), j < (putN v).length → (putN v).getD j 0 % 128 = v / 128 ^ j % 128
  | 0, v, _ => by
    by_cases h : v < 128
    · rw [putN_small h]; simp
    · rw [putN_big h]; simp
  | j + 1, v, hj => by
    by_cases h : v < 128
    · rw [putN_small h] at hj
      simp at hj
    · rw [putN_big h] at hj ⊢
      have := putN_digit j (v / 128) (by simpa using hj)
      rw [List.getD_cons_succ, this, Nat.div_div_eq_div_mul, Nat.pow_succ, Nat.mul_comm (128 ^ j)]
theorem putN_bound : ∀ v : Nat, v < 128 ^ (putN v).length := by
  intro v
  induction v using Nat.strongRecOn with
  | _ v ih =>
    by_cases h : v < 128
    · rw [putN_small h]; simpa using h
    · have := ih (v / 128) (by omega)
      rw [putN_big h, List.length_cons, Nat.pow_succ]
      omega
theorem or_shift {a x i : Nat} (ha : a < 2 ^ i) : a ||| x <<< i = a + 2 ^ i * x := by
  rw [Nat.shiftLeft_eq, Nat.mul_comm x, Nat.or_comm, ← Nat.two_pow_add_eq_or_of_lt ha]
  omega
theorem gv_put {v : Nat} (hv : v < 2 ^ 28) (R : List Nat) : ∀ j, j ≤ (putN v).length → gv (putN v ++ R) j = ((v % 2 ^ (7 * j) : Nat) : Int)
  | 0, _ => by simp [gv, Nat.mod_one]
  | j + 1, hj => by
    have hlen : (putN v).length ≤ 4 := putN_length 3 v (Nat.lt_of_lt_of_le hv (by decide))
    have ih := gv_put hv R j (by omega)
    have hd := putN_digit j v (by omega)
    have hb : (putN v).getD j 0 < 256 := getD_lt (by decide) (putN_lt v) j
    have hg : (putN v ++ R).getD j 0 = (putN v).getD j 0 := by
      rw [List.getD_eq_getElem?_getD, List.getD_eq_getElem?_getD, List.getElem?_append_left (by omega)]
    have hp : 2 ^ (7 * j) ≤ 2 ^ 21 := Nat.pow_le_pow_right (by decide) (by omega)
    have h0 := Nat.two_pow_pos (7 * j)
    have hm : v % 2 ^ (7 * j) < 2 ^ (7 * j) := Nat.mod_lt _ h0
    have hx : v / 2 ^ (7 * j) % 128 < 128 := Nat.mod_lt _ (by decide)
    have hs : (v / 2 ^ (7 * j) % 128) <<< (7 * j) < 2 ^ 28 := by
      rw [Nat.shiftLeft_eq]
      calc (v / 2 ^ (7 * j) % 128) * 2 ^ (7 * j) < 128 * 2 ^ (7 * j) := Nat.mul_lt_mul_of_pos_right hx h0
        _ ≤ 128 * 2 ^ 21 := Nat.mul_le_mul_left _ hp
        _ = 2 ^ 28 := by decide
    rw [gv, gstep, ih, hg, show (127 : Int) = ((127 : Nat) : Int) from rfl, and8 hb (by decide), show (127 : Nat) = 2 ^ 7 - 1 from rfl, Nat.and_two_pow_sub_one_eq_mod, show (2 : Nat) ^ 7 = 128 from rfl, hd, show (128 : Nat) ^ j = 2 ^ (7 * j) from by rw [show (128 : Nat) = 2 ^ 7 from rfl, ← Nat.pow_mul]]
    rw [wu64 (by omega) (by omega), shl64 (by omega), Nat.mod_eq_of_lt (a := (v / 2 ^ (7 * j) % 128) <<< (7 * j)) (by omega), or64 (by omega) (by omega), or_shift hm, show 7 * (j + 1) = 7 * j + 7 by omega, Nat.pow_add, show (2 : Nat) ^ 7 = 128 from rfl, Nat.mod_mul]
theorem getS_put {B R : List Nat} {p v : Nat} (hv : v < 2 ^ 28) (hB : B.drop p = putN v ++ R) (hp : p ≤ B.length) : getS B (p : Int) = ((v : Int), ((p + (putN v).length : Nat) : Int), 0) := by
  have hm := moreN_put v R
  have hpos := putN_pos v
  have hlen : (putN v).length ≤ 4 := putN_length 3 v (Nat.lt_of_lt_of_le hv (by decide))
  have hg : (putN v ++ R).getD (moreN (putN v ++ R)) 0 = (putN v).getD ((putN v).length - 1) 0 := by
    rw [show moreN (putN v ++ R) = (putN v).length - 1 by omega, List.getD_eq_getElem?_getD, List.getD_eq_getElem?_getD, List.getElem?_append_left (by omega)]
  unfold getS
  rw [if_neg (by omega), show (p : Int).toNat = p from rfl, hB, getR, if_neg (by rw [List.length_append]; omega), if_neg ?_]
  · rw [hm, gv_put hv R _ (Nat.le_refl _), Nat.mod_eq_of_lt (a := v) (by rw [Nat.pow_mul]; exact putN_bound v), show p + moreN (putN v ++ R) + 1 = p + (putN v).length by omega]
  · rw [hg]
    rintro (h | ⟨h, _⟩ | ⟨h, hz⟩)
    · omega
    · omega
    · refine putN_last v ?_ hz
      rcases Nat.eq_zero_or_pos v with h0 | h0
      · subst h0
        rw [putN_small (show 0 < 128 by decide)] at hm h
        simp only [List.length_singleton] at hm
        omega
      · exact h0


end Go.Proofs.Ytllboaghcfeepaa.QDictTells
