/- Numbers are written as runs, and read, as the document says, for any numbers and bytes. No condition. -/
import Derived.Test.YtpnnfkefddkjcaaTRunsDecRunsTells
import Derived.Test.YtpnnfkefddkjcaaTSame64RunsTells
namespace Go.Proofs.Ytpnnfkefddkjcaa.Pure
open Go.RowKit Go.Proofs.Ytpnnfkefddkjcaa.QRunsTells Go.Proofs.YtpnnfkefddkjcaaW.PrintWords Go.Proofs.YtpnnfkefddkjcaaW.PrintLast Go.Proofs.Ytpnnfkefddkjcaa.Base
set_option linter.unusedVariables false
set_option linter.unusedSimpArgs false

theorem known_ev : Ev (fun k => columbariumlaw5_known.f k) true := Ev.of columbariumlaw5_known.mono (k := 60) (by decide +kernel)
theorem RunsTells : columbariumlaw5_RunsTells.Pure := by
  intro l b at_ n width hm hr hwf hbm hbr hbwf _ _ _
  obtain ⟨L, rfl, hL⟩ := ints_of fun x hx => wf_u64 (hwf x hx)
  obtain ⟨B, rfl, hB⟩ := ints_of fun x hx => wf_u8 (hbwf x hx)
  refine Ev.rounds ?_
  have hBl : B.length ≤ 140737488351232 := by rw [ints_length] at hbr; omega
  have main : ∀ (M : List Nat) (n : Int), (∀ x ∈ M, x < 2 ^ 64) → M.length ≤ 60 → Ev (fun k => (runs_Encode.f k (ints M) width).bind fun p => (columbariumref5_Encode.f k (ints M) width).bind fun q => (runs_Decode.f k (ints B) at_ n width).bind fun x => (columbariumref5_Decode.f k (ints B) at_ n width).bind fun y =>
      if (strOfNums p.1).toList = (strOfNums q.1).toList then (if p.2 = q.2 then ((columbariumbook_Same_uint64.f k x.1 y.1).bind fun t => if t = true then (if x.2.1 = y.2.1 then (if x.2.2 = y.2.2 then ((columbariumlaw5_known.f k).bind fun t => some t) else some false) else some false) else some false) else some false) else some false) true := by
    intro M n hM hMl
    obtain ⟨r, ⟨R, hR, hRl, _⟩, hr1, hr2⟩ := dec_both hB hBl at_ n width
    refine Ev.bind (enc_ev hM (by omega) width) (Ev.bind (enc5_ev hM (by omega) width) (Ev.bind hr1 (Ev.bind hr2 ?_)))
    refine Ev.congr (fun k => by rw [if_pos rfl, if_pos rfl]) ?_
    have hs := same64_ev R R (by omega)
    rw [← hR, decide_eq_true rfl] at hs
    refine Ev.bind hs (Ev.congr (fun k => by rw [if_pos rfl, if_pos rfl, if_pos rfl]) (Ev.bind known_ev (Ev.now _)))
  have hT : ∀ x ∈ L.take 60, x < 2 ^ 64 := fun x hx => hL x (List.mem_of_mem_take hx)
  have hTl : (L.take 60).length ≤ 60 := by rw [List.length_take]; omega
  by_cases h1 : ((ints L).length : Int) > 60
  · by_cases h2 : n > 3000
    · exact Ev.congr (fun k => by rw [columbariumlaw5_RunsTells.f, if_pos h1, if_pos (by omega), if_pos h2, ints_take]) (main _ 1048577 hT hTl)
    · exact Ev.congr (fun k => by rw [columbariumlaw5_RunsTells.f, if_pos h1, if_pos (by omega), if_neg h2, ints_take]) (main _ n hT hTl)
  · have hLl : L.length ≤ 60 := by rw [ints_length] at h1; omega
    by_cases h2 : n > 3000
    · exact Ev.congr (fun k => by rw [columbariumlaw5_RunsTells.f, if_neg h1, if_pos h2]) (main _ 1048577 hL hLl)
    · exact Ev.congr (fun k => by rw [columbariumlaw5_RunsTells.f, if_neg h1, if_neg h2]) (main _ n hL hLl)

end Go.Proofs.Ytpnnfkefddkjcaa.Pure
