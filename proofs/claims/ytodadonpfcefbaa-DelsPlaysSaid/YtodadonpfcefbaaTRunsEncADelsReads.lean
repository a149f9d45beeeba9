/- runs.Encode, whole. -/
import Derived.Test.YtodadonpfcefbaaTRunsEncDelsReads
namespace Go.Proofs.Ytodadonpfcefbaa.QDelsReads
open Go.RowKit Go.Proofs.YtodadonpfcefbaaW.PrintWords Go.Proofs.YtodadonpfcefbaaW.PrintLast Go.Proofs.YtodadonpfcefbaaW.PrintMore Go.Proofs.Ytodadonpfcefbaa.Base
set_option linter.unusedVariables false
set_option linter.unusedSimpArgs false
set_option linter.unusedSectionVars false

/-! ### both -/
def enc (L : List Nat) (w : Int) : List Nat × Int := if w < 0 ∨ 32 < w ∨ w < (wd L : Int) then ([], 15) else (encS L w.toNat 0 [], 0)
theorem enc_ev {L : List Nat} (hL : ∀ x ∈ L, x < 2 ^ 64) (hlen : L.length ≤ 1048600) (w : Int) : Ev (fun k => runs_Encode.f k (ints L) w) (ints (enc L w).1, (enc L w).2) := by
  have hbad : Ev (fun k => runs_Encode.j0 k (ints L) w true) (([] : List Int), 15) := Ev.step (f := fun _ => some (([] : List Int), 15)) (fun k => by rw [runs_Encode.j0, if_pos rfl]) (Ev.now _)
  unfold enc
  by_cases h1 : w < 0
  · rw [if_pos (.inl h1)]
    exact Ev.congr (fun k => by rw [runs_Encode.f, if_pos h1]) hbad
  by_cases h2 : w > 32
  · rw [if_pos (.inr (.inl h2))]
    exact Ev.congr (fun k => by rw [runs_Encode.f, if_neg h1, if_pos h2]) hbad
  refine Ev.congr (fun k => by rw [runs_Encode.f, if_neg h1, if_neg h2]) (Ev.bind (width_ev hL (by omega)) ?_)
  by_cases h3 : w < (wd L : Int)
  · rw [if_pos (.inr (.inr h3)), decide_eq_true h3]
    exact hbad
  · rw [if_neg (by omega), decide_eq_false h3]
    obtain ⟨v, rfl⟩ := Int.eq_ofNat_of_zero_le (show 0 ≤ w by omega)
    refine Ev.step (f := fun k => runs_Encode.l0 k (ints L) (v : Int) (ints []) ((0 : Nat) : Int)) (fun k => by rw [runs_Encode.j0, if_neg (by decide)]; rfl) ?_
    exact runs_l0 (by omega) ((wd_le L v).1 (by omega)) hlen _ 0 [] (Nat.le_refl _) (by simp) (by omega)

end Go.Proofs.Ytodadonpfcefbaa.QDelsReads
