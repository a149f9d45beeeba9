/- Numbers of few bits one behind the other, as one great number. -/
import Derived.Test.YtodadonpfcefbaaB0
namespace Go.Proofs.Ytodadonpfcefbaa.Base
open Go.RowKit Go.Proofs.YtodadonpfcefbaaW.PrintWords Go.Proofs.YtodadonpfcefbaaW.PrintLast Go.Proofs.YtodadonpfcefbaaW.PrintMore
set_option linter.unusedVariables false
set_option linter.unusedSimpArgs false

/-- The number whose digits of w bits these are, the least first. -/
def val (w : Nat) : List Nat → Nat
  | [] => 0
  | x :: L => x + 2 ^ w * val w L
/-- The first n digits of w bits of a number. -/
def digits (w : Nat) : Nat → Nat → List Nat
  | 0, _ => []
  | n + 1, v => v % 2 ^ w :: digits w n (v / 2 ^ w)
theorem digits_length (w n v : Nat) : (digits w n v).length = n := by
  induction n generalizing v with
  | zero => rfl
  | succ n ih => simp [digits, ih]
theorem digits_lt (w n v : Nat) : ∀ x ∈ digits w n v, x < 2 ^ w := by
  induction n generalizing v with
  | zero => intro x hx; simp [digits] at hx
  | succ n ih =>
    intro x hx
    rcases List.mem_cons.1 hx with rfl | hx
    · exact Nat.mod_lt _ (Nat.two_pow_pos w)
    · exact ih _ x hx
theorem val_lt {w : Nat} (L : List Nat) (h : ∀ x ∈ L, x < 2 ^ w) : val w L < 2 ^ (w * L.length) := by
  induction L with
  | nil => simp [val]
  | cons x L ih =>
    have hx := h x List.mem_cons_self
    have hr := ih fun y hy => h y (List.mem_cons_of_mem _ hy)
    simp only [val, List.length_cons]
    rw [Nat.mul_succ, Nat.add_comm (w * L.length) w, Nat.pow_add]
    have h1 : val w L + 1 ≤ 2 ^ (w * L.length) := hr
    have h2 : 2 ^ w * (val w L + 1) ≤ 2 ^ w * 2 ^ (w * L.length) := Nat.mul_le_mul_left _ h1
    rw [Nat.mul_add] at h2
    omega
theorem val_testBit {w : Nat} (L : List Nat) (h : ∀ x ∈ L, x < 2 ^ w) (i k : Nat) (hk : k < w) : (val w L).testBit (i * w + k) = (L.getD i 0).testBit k := by
  induction L generalizing i with
  | nil => simp [val]
  | cons x L ih =>
    have hx := h x List.mem_cons_self
    have ihr := ih fun y hy => h y (List.mem_cons_of_mem _ hy)
    simp only [val]
    rw [Nat.add_comm, Nat.testBit_two_pow_mul_add _ hx]
    cases i with
    | zero =>
      rw [if_pos (by omega)]
      simp
    | succ i =>
      have e : (i + 1) * w + k - w = i * w + k := by rw [Nat.succ_mul]; omega
      rw [if_neg (by rw [Nat.succ_mul]; omega), e, ihr i]
      simp
theorem digits_zero (w n : Nat) : digits w n 0 = List.replicate n 0 := by
  induction n with
  | zero => rfl
  | succ n ih => simp [digits, ih, List.replicate_succ]
/-- A bit is set behind all others: in its digit. -/
theorem digits_set {w : Nat} (n A j r : Nat) (b : Bool) (hr : r < w) (hj : j < n) (hA : A < 2 ^ (w * j + r)) :
    (digits w n A).set j ((digits w n A).getD j 0 ||| b.toNat <<< r) = digits w n (A + 2 ^ (w * j + r) * b.toNat) := by
  induction j generalizing n A with
  | zero =>
    obtain ⟨n, rfl⟩ : ∃ m, n = m + 1 := ⟨n - 1, by omega⟩
    have hA' : A < 2 ^ r := by simpa using hA
    have h1 : A < 2 ^ w := Nat.lt_of_lt_of_le hA' (Nat.pow_le_pow_right (by decide) (by omega))
    have hb : b.toNat ≤ 1 := Bool.toNat_le b
    have h2 : A + 2 ^ r * b.toNat < 2 ^ w := by
      have h3 : 2 ^ r + 2 ^ r ≤ 2 ^ w := by
        have : 2 ^ (r + 1) ≤ 2 ^ w := Nat.pow_le_pow_right (by decide) (by omega)
        rw [Nat.pow_succ] at this
        omega
      have h4 : 2 ^ r * b.toNat ≤ 2 ^ r * 1 := Nat.mul_le_mul_left _ hb
      omega
    simp only [digits, List.getD_cons_zero, List.set_cons_zero, Nat.mul_zero, Nat.zero_add]
    rw [Nat.mod_eq_of_lt h1, Nat.mod_eq_of_lt h2, Nat.div_eq_of_lt h1, Nat.div_eq_of_lt h2]
    congr 1
    rw [Nat.or_comm, Nat.shiftLeft_eq, Nat.mul_comm, ← Nat.two_pow_add_eq_or_of_lt hA', Nat.add_comm]
  | succ j ih =>
    obtain ⟨n, rfl⟩ : ∃ m, n = m + 1 := ⟨n - 1, by omega⟩
    have e : w * (j + 1) + r = w + (w * j + r) := by rw [Nat.mul_succ]; omega
    rw [e] at hA ⊢
    rw [Nat.pow_add] at hA ⊢
    have hd : A / 2 ^ w < 2 ^ (w * j + r) := Nat.div_lt_of_lt_mul hA
    simp only [digits, List.getD_cons_succ, List.set_cons_succ]
    rw [ih n _ (by omega) hd, Nat.mul_assoc, Nat.add_mul_mod_self_left, Nat.add_mul_div_left _ _ (Nat.two_pow_pos w)]

end Go.Proofs.Ytodadonpfcefbaa.Base
