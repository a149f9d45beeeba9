/- Whether a dictionary may be written, as printed for DictTells. -/
import Derived.Test.YtllboaghcfeepaaTDictSetDictTells
namespace Go.Proofs.Ytllboaghcfeepaa.QDictTells
open Go.RowKit Go.Proofs.YtllboaghcfeepaaW.PrintWords Go.Proofs.YtllboaghcfeepaaW.PrintLast Go.Proofs.YtllboaghcfeepaaW.PrintMore Go.Proofs.Ytllboaghcfeepaa.Base
set_option linter.unusedVariables false
set_option linter.unusedSimpArgs false

theorem rising_l0 (d : List ByteArray) (hl : d.length < 4611686018427387904) (m : Nat) : ∀ i, d.length - i = m → ∃ b, (Rising d → b = true) ∧ Ev (fun k => dict_rising.l0 k d ((i + 1 : Nat) : Int)) b := by
  induction m with
  | zero =>
    intro i hm
    exact ⟨true, fun _ => rfl, Ev.step (f := fun _ => some true) (fun k => by rw [dict_rising.l0, if_neg (by omega)]) (Ev.now _)⟩
  | succ m ih =>
    intro i hm
    by_cases h : i + 1 < d.length
    · have e : wrap64 (((i + 1 : Nat) : Int) - 1) = (i : Int) := by rw [w64 (by omega) (by omega)]; omega
      by_cases hx : (gt d i).toList < (gt d (i + 1)).toList
      · obtain ⟨b, h1, h2⟩ := ih (i + 1) (by omega)
        refine ⟨b, h1, Ev.step (fun k => ?_) h2⟩
        rw [dict_rising.l0, if_pos (by omega), e, if_pos (by omega), if_pos (by omega), if_pos (by omega), rd_gt, rd_gt, Go.Proofs.bytesLess_eq, if_pos (decide_eq_true hx), succ64 (by omega)]
      · refine ⟨false, fun hd => absurd (rising_lt hd (by omega) h) hx, Ev.step (f := fun _ => some false) (fun k => ?_) (Ev.now _)⟩
        rw [dict_rising.l0, if_pos (by omega), e, if_pos (by omega), if_pos (by omega), if_pos (by omega), rd_gt, rd_gt, Go.Proofs.bytesLess_eq, decide_eq_false hx, if_neg Bool.false_ne_true]
    · exact ⟨true, fun _ => rfl, Ev.step (f := fun _ => some true) (fun k => by rw [dict_rising.l0, if_neg (by omega)]) (Ev.now _)⟩
theorem rising_ev (d : List ByteArray) (hl : d.length < 4611686018427387904) : ∃ b, (Rising d → b = true) ∧ Ev (fun k => dict_rising.f k d) b := rising_l0 d hl _ 0 rfl
theorem fits_of {d : List ByteArray} {b : Bool} (hb : Ev (fun k => dict_rising.f k d) b) : Ev (fun k => dict_Fits.f k d) (decide (d.length ≤ 16) && (b && !d.any dict_long)) := by
  by_cases h : d.length ≤ 16
  · refine Ev.congr (fun k => by rw [dict_Fits.f, if_pos (by omega)]) (Ev.bind hb ?_)
    rw [decide_eq_true h, Bool.true_and]
    cases b
    · exact Ev.congr (f := fun _ => some false) (fun k => by rw [if_neg Bool.false_ne_true]) (Ev.now _)
    · exact Ev.congr (f := fun _ => some (!d.any dict_long)) (fun k => by rw [if_pos rfl]) (Ev.now _)
  · rw [decide_eq_false h, Bool.false_and]
    exact Ev.congr (f := fun _ => some false) (fun k => by rw [dict_Fits.f, if_neg (by omega)]) (Ev.now _)
theorem fits_ev {d : List ByteArray} (hd : Rising d) (hl : d.length < 4611686018427387904) : Ev (fun k => dict_Fits.f k d) (decide (d.length ≤ 16) && !d.any dict_long) := by
  obtain ⟨b, h1, h2⟩ := rising_ev d hl
  have := fits_of h2
  rwa [h1 hd, Bool.true_and] at this

end Go.Proofs.Ytllboaghcfeepaa.QDictTells
