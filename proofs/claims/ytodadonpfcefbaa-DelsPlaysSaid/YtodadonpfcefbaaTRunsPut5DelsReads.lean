/- The document's same and Put. -/
import Derived.Test.YtodadonpfcefbaaTRunsPutDelsReads
namespace Go.Proofs.Ytodadonpfcefbaa.QDelsReads
open Go.RowKit Go.Proofs.YtodadonpfcefbaaW.PrintWords Go.Proofs.YtodadonpfcefbaaW.PrintLast Go.Proofs.YtodadonpfcefbaaW.PrintMore Go.Proofs.Ytodadonpfcefbaa.Base
set_option linter.unusedVariables false
set_option linter.unusedSimpArgs false
set_option linter.unusedSectionVars false

theorem same5_l (L : List Nat) (i : Nat) (hi : i < L.length) (hb : L.length < 9223372036854775807) (d : Nat) : ∀ j, L.length - j = d → i ≤ j → j ≤ L.length →
    Ev (fun k => columbariumref5_same.l0 k (ints L) (i : Int) (j : Int)) ((j + cnt L (L.getD i 0) j - i : Nat) : Int) := by
  induction d with
  | zero =>
    intro j hd hij hj
    refine Ev.step (f := fun _ => some ((j + cnt L (L.getD i 0) j - i : Nat) : Int)) (fun k => ?_) (Ev.now _)
    rw [columbariumref5_same.l0, if_neg (by rw [ints_length]; omega), cnt_end L _ j (by omega), w64 (by omega) (by omega)]
    congr 1
    omega
  | succ d ih =>
    intro j hd hij hj
    have hj' : j < L.length := by omega
    by_cases h : L.getD j 0 = L.getD i 0
    · rw [cnt_eq L _ j hj' h, show j + (cnt L (L.getD i 0) (j + 1) + 1) - i = j + 1 + cnt L (L.getD i 0) (j + 1) - i by omega]
      refine Ev.step (f := fun k => columbariumref5_same.l0 k (ints L) (i : Int) ((j + 1 : Nat) : Int)) (fun k => ?_) (ih (j + 1) (by omega) (by omega) (by omega))
      rw [columbariumref5_same.l0, if_pos (by rw [ints_length]; omega), if_pos (by omega), if_pos (by omega), if_pos (by rw [ints_length]; omega), rd_ints, rd_ints, h, if_pos rfl, succ64 (by omega)]
    · rw [cnt_ne L _ j hj' h]
      refine Ev.step (f := fun _ => some ((j + 0 - i : Nat) : Int)) (fun k => ?_) (Ev.now _)
      rw [columbariumref5_same.l0, if_pos (by rw [ints_length]; omega), if_pos (by omega), if_pos (by omega), if_pos (by rw [ints_length]; omega), rd_ints, rd_ints, if_neg (by omega), w64 (by omega) (by omega)]
      congr 1
      omega
theorem same5_ev (L : List Nat) (i : Nat) (hi : i < L.length) (hb : L.length < 9223372036854775807) : Ev (fun k => columbariumref5_same.f k (ints L) (i : Int)) ((sameN L i : Nat) : Int) := by
  have := same5_l L i hi hb _ i rfl (by omega) (by omega)
  rw [show i + cnt L (L.getD i 0) i - i = sameN L i from by unfold sameN; omega] at this
  exact Ev.congr (fun k => by rw [columbariumref5_same.f]) this
theorem put1_l (n : Nat) : n < 2 ^ 64 → ∀ A : List Nat, A.length + (putN n).length < 140737488355328 → Ev (fun k => columbariumref1_Put.l0 k (n : Int) (ints A)) (ints (A ++ putN n)) := by
  induction n using Nat.strongRecOn with
  | _ n ih =>
    intro hn A hA
    by_cases h : n < 128
    · rw [putN_small h] at hA ⊢
      refine Ev.step (f := fun _ => some (ints (A ++ [n]))) (fun k => ?_) (Ev.now _)
      rw [columbariumref1_Put.l0, if_neg (by omega), if_pos (by rw [ints_length]; simp at hA; omega), show (n : Int) % 256 = (n : Int) by omega]
      rw [show [(n : Int)] = ints [n] from rfl, ints_append]
    · rw [putN_big h] at hA ⊢
      rw [List.length_cons] at hA
      refine Ev.step (f := fun k => columbariumref1_Put.l0 k ((n / 128 : Nat) : Int) (ints (A ++ [n % 128 + 128]))) (fun k => ?_) ?_
      · rw [columbariumref1_Put.l0, if_pos (by omega), if_pos (by rw [ints_length]; omega), show (128 : Int) = ((128 : Nat) : Int) from rfl, tmod_nat, tdiv_nat, wu64 (by omega) (by omega)]
        rw [show (((n % 128 : Nat) : Int) + ((128 : Nat) : Int)) % 256 = ((n % 128 + 128 : Nat) : Int) by omega, show [((n % 128 + 128 : Nat) : Int)] = ints [n % 128 + 128] from rfl, ints_append]
      · have := ih (n / 128) (by omega) (by omega) (A ++ [n % 128 + 128]) (by rw [List.length_append, List.length_singleton]; omega)
        rw [List.append_assoc] at this
        exact this
theorem put1_ev {n : Nat} (hn : n < 2 ^ 64) (A : List Nat) (hA : A.length < 140737488355000) : Ev (fun k => columbariumref1_Put.f k (ints A) (n : Int)) (ints (A ++ putN n)) := by
  have h10 := putN_10 hn
  refine Ev.congr (f := fun k => columbariumref1_Put.l0 k (n : Int) (ints A)) (fun k => by rw [columbariumref1_Put.f, Option.bind_some, if_pos (by rw [ints_length]; simp; omega)]; rfl) ?_
  exact put1_l n hn A (by omega)

end Go.Proofs.Ytodadonpfcefbaa.QDelsReads
