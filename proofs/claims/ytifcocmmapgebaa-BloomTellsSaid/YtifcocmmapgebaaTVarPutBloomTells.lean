/- Numbers in bytes. -/
import Derived.Test.YtifcocmmapgebaaTRefBloomBloomTells
import Derived.Test.YtifcocmmapgebaaB1
namespace Go.Proofs.Ytifcocmmapgebaa.QBloomTells
open Go.RowKit Go.Proofs.YtifcocmmapgebaaW.PrintWords Go.Proofs.YtifcocmmapgebaaW.PrintLast Go.Proofs.YtifcocmmapgebaaW.PrintMore Go.Proofs.Ytifcocmmapgebaa.Base
set_option linter.unusedVariables false
set_option linter.unusedSimpArgs false

theorem drop_cons (L : List Nat) (j : Nat) (h : j < L.length) : L.drop j = L.getD j 0 :: L.drop (j + 1) := by
  rw [List.drop_eq_getElem_cons h, List.getD_eq_getElem?_getD, List.getElem?_eq_getElem h]
  rfl
/-! ### Put -/
def putN (n : Nat) : List Nat := if h : n < 128 then [n] else (n % 128 + 128) :: putN (n / 128)
termination_by n
decreasing_by omega
theorem putN_small {n : Nat} (h : n < 128) : putN n = [n] := by rw [putN, dif_pos h]
theorem putN_big {n : Nat} (h : ¬ n < 128) : putN n = (n % 128 + 128) :: putN (n / 128) := by rw [putN, dif_neg h]
theorem putN_lt : ∀ n : Nat, ∀ x ∈ putN n, x < 256 := by
  intro n
  induction n using Nat.strongRecOn with
  | _ n ih =>
    by_cases h : n < 128
    · rw [putN_small h]
      intro x hx
      rw [List.mem_singleton] at hx
      omega
    · rw [putN_big h]
      intro x hx
      rcases List.mem_cons.1 hx with hx | hx
      · omega
      · exact ih _ (by omega) x hx
theorem putN_length (j : Nat) : ∀ n : Nat, n < 128 ^ (j + 1) → (putN n).length ≤ j + 1 := by
  induction j with
  | zero => intro n h; rw [putN_small (by simpa using h)]; simp
  | succ j ih =>
    intro n h
    by_cases hs : n < 128
    · rw [putN_small hs]; simp
    · rw [putN_big hs, List.length_cons]
      have := ih (n / 128) (by rw [Nat.div_lt_iff_lt_mul (by decide), ← Nat.pow_succ]; exact h)
      omega
theorem putN_10 {n : Nat} (h : n < 2 ^ 64) : (putN n).length ≤ 10 := putN_length 9 n (Nat.lt_of_lt_of_le h (by decide))
theorem or128 (n : Nat) : (n % 256) ||| 128 = n % 128 + 128 := by
  have h : (n % 256) ||| 128 = (n % 128) ||| 128 := by
    apply Nat.eq_of_testBit_eq
    intro i
    rw [Nat.testBit_or, Nat.testBit_or, show (256 : Nat) = 2 ^ 8 from rfl, show (128 : Nat) = 2 ^ 7 from rfl, Nat.testBit_mod_two_pow, Nat.testBit_mod_two_pow, Nat.testBit_two_pow]
    by_cases h7 : 7 = i
    · simp [h7]
    · simp only [h7, decide_false, Bool.or_false]
      by_cases h8 : i < 7
      · simp [h8, show i < 8 by omega]
      · simp [h8, show ¬ i < 8 by omega]
  rw [h, Nat.or_comm, show (128 : Nat) = 2 ^ 7 * 1 from rfl, ← Nat.two_pow_add_eq_or_of_lt (Nat.mod_lt _ (by decide))]
  omega
theorem put_l (n : Nat) : n < 2 ^ 64 → ∀ A : List Nat, A.length + (putN n).length < 140737488355328 → Ev (fun k => varint_Put.l0 k (n : Int) (ints A)) (ints (A ++ putN n)) := by
  induction n using Nat.strongRecOn with
  | _ n ih =>
    intro hn A hA
    by_cases h : n < 128
    · rw [putN_small h] at hA ⊢
      refine Ev.step (f := fun _ => some (ints (A ++ [n]))) (fun k => ?_) (Ev.now _)
      rw [varint_Put.l0, if_neg (by omega), if_pos (by rw [ints_length]; simp at hA; omega), show (n : Int) % 256 = (n : Int) by omega]
      rw [show [(n : Int)] = ints [n] from rfl, ints_append]
    · rw [putN_big h] at hA ⊢
      rw [List.length_cons] at hA
      refine Ev.step (f := fun k => varint_Put.l0 k ((n / 128 : Nat) : Int) (ints (A ++ [n % 128 + 128]))) (fun k => ?_) ?_
      · rw [varint_Put.l0, if_pos (by omega), if_pos (by rw [ints_length]; omega)]
        have e : Go.bits .or .u8 ((n : Int) % 256) 128 = ((n % 128 + 128 : Nat) : Int) := by
          rw [show (n : Int) % 256 = ((n % 256 : Nat) : Int) by omega, show (128 : Int) = ((128 : Nat) : Int) from rfl, or8 (Nat.mod_lt _ (by decide)) (by decide), or128]
        rw [e, show [((n % 128 + 128 : Nat) : Int)] = ints [n % 128 + 128] from rfl, ints_append, show (n : Int) / 128 = ((n / 128 : Nat) : Int) by omega]
      · have := ih (n / 128) (by omega) (by omega) (A ++ [n % 128 + 128]) (by rw [List.length_append, List.length_singleton]; omega)
        rw [List.append_assoc] at this
        exact this
theorem put_ev {n : Nat} (hn : n < 2 ^ 64) : Ev (fun k => varint_Put.f k [] (n : Int)) (ints (putN n)) := by
  have h10 := putN_10 hn
  refine Ev.congr (f := fun k => varint_Put.l0 k (n : Int) (ints [])) (fun k => by rw [varint_Put.f, Option.bind_some, if_pos (by simp)]; rfl) ?_
  have := put_l n hn [] (by simp; omega)
  rwa [List.nil_append] at this

end Go.Proofs.Ytifcocmmapgebaa.QBloomTells
