/- The document's Put. -/
import Derived.Test.YtllboaghcfeepaaTVarPutDictTells
namespace Go.Proofs.Ytllboaghcfeepaa.QDictTells
open Go.RowKit Go.Proofs.YtllboaghcfeepaaW.PrintWords Go.Proofs.YtllboaghcfeepaaW.PrintLast Go.Proofs.YtllboaghcfeepaaW.PrintMore Go.Proofs.Ytllboaghcfeepaa.Base
set_option linter.unusedVariables false
set_option linter.unusedSimpArgs false
set_option linter.unusedSectionVars false

theorem put1_l (n : Nat) : n < 2 ^ 64 → ∀ A : List Nat, A.length + (putN n).length < 140737488355328 → Ev (fun k => columbariumref1_Put.l0 k (n : Int) (ints A)) (ints (A ++ putN n)) := by
  induction n using Nat.strongRecOn with
  | _ n ih =>
    intro hn A hA
    by_cases h : n < 128
    · rw [putN_small h] at hA ⊢
      refine Ev.step (f := fun _ => some (ints (A ++ [n]))) (fun k => ?_) (Ev.now _)
      rw [columbariumref1_Put.l0, if_neg (by omega), if_pos (by rw [ints_length]; simp at hA; omega), show (n : Int) % 256 = (n : Int) by omega]
      rw [show [(n : Int)] = ints [n] from rfl, ints_append]
    · rw [putN_big h] at hA ⊢
      rw [List.length_cons] at hA
      refine Ev.step (f := fun k => columbariumref1_Put.l0 k ((n / 128 : Nat) : Int) (ints (A ++ [n % 128 + 128]))) (fun k => ?_) ?_
      · rw [columbariumref1_Put.l0, if_pos (by omega), if_pos (by rw [ints_length]; omega), show (128 : Int) = ((128 : Nat) : Int) from rfl, tmod_nat, tdiv_nat, wu64 (by omega) (by omega)]
        rw [show (((n % 128 : Nat) : Int) + ((128 : Nat) : Int)) % 256 = ((n % 128 + 128 : Nat) : Int) by omega, show [((n % 128 + 128 : Nat) : Int)] = ints [n % 128 + 128] from rfl, ints_append]
      · have := ih (n / 128) (by omega) (by omega) (A ++ [n % 128 + 128]) (by rw [List.length_append, List.length_singleton]; omega)
        rw [List.append_assoc] at this
        exact this
theorem put1_ev {n : Nat} (hn : n < 2 ^ 64) (A : List Nat) (hA : A.length < 140737488355000) : Ev (fun k => columbariumref1_Put.f k (ints A) (n : Int)) (ints (A ++ putN n)) := by
  have h10 := putN_10 hn
  refine Ev.congr (f := fun k => columbariumref1_Put.l0 k (n : Int) (ints A)) (fun k => by rw [columbariumref1_Put.f, Option.bind_some, if_pos (by rw [ints_length]; simp; omega)]; rfl) ?_
  exact put1_l n hn A (by omega)

end Go.Proofs.Ytllboaghcfeepaa.QDictTells
