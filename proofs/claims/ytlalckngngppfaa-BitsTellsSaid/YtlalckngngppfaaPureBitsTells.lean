/- Numbers are packed, and bytes unpacked, as the document says: for every list of whole numbers, width, bytes and count. -/
import Derived.Test.YtlalckngngppfaaTRefUnpackBitsTells
import Derived.Test.YtlalckngngppfaaTSame64BitsTells
namespace Go.Proofs.Ytlalckngngppfaa.Pure
open Go.RowKit Go.Proofs.Ytlalckngngppfaa.QBitsTells Go.Proofs.YtlalckngngppfaaW.PrintWords Go.Proofs.YtlalckngngppfaaW.PrintLast Go.Proofs.YtlalckngngppfaaW.PrintMore Go.Proofs.Ytlalckngngppfaa.Base
set_option linter.unusedVariables false
set_option linter.unusedSimpArgs false

theorem few_take (L : List Nat) : columbariumlaw3_few.f (ints L) = some (ints (L.take 60)) := by
  unfold columbariumlaw3_few.f
  by_cases h : ((ints L).length : Int) > 60
  · rw [if_pos h, if_pos (by omega), ints_take]
  · rw [if_neg h]
    rw [ints_length] at h
    rw [List.take_of_length_le (by omega)]
theorem known_ev : Ev (fun k => columbariumlaw3_known.f k) true := Ev.of columbariumlaw3_known.mono (k := 30) (by decide +kernel)
theorem unp_length (B : List Nat) (n w : Int) : (unp B n w).1.length ≤ 16777216 := by
  unfold unp
  split
  · simp
  · split
    · simp
    · split
      · simp
      · split
        · simp
        · split
          · simp
          · rw [digits_length]
            omega
theorem BitsTells : columbariumlaw3_BitsTells.Pure := by
  intro l width b n hm hr hwf hw hbm hbr hbwf hn
  obtain ⟨L, rfl, hL⟩ := ints_of fun x hx => wf_u64 (hwf x hx)
  obtain ⟨B, rfl, hB⟩ := ints_of fun x hx => wf_u8 (hbwf x hx)
  refine Ev.rounds ?_
  have hM : ∀ x ∈ L.take 60, x < 2 ^ 64 := fun x hx => hL x (List.mem_of_mem_take hx)
  have hlen : (L.take 60).length ≤ 60 := by rw [List.length_take]; omega
  have hfew := few_take L
  generalize hMe : L.take 60 = M at hM hlen hfew
  have hBlen : B.length ≤ 140737488351232 := by rw [ints_length] at hbr; omega
  refine Ev.congr (fun k => by rw [columbariumlaw3_BitsTells.f, hfew, Option.bind_some]) ?_
  refine Ev.bind (pack_all hM (by omega) width) (Ev.bind (pack3_all hM (by omega) width) ?_)
  have main : ∀ n : Int, Ev (fun k => columbariumlaw3_BitsTells.j0 k (ints M) width (ints B) n (ints (pck M width).1) (pck M width).2 (ints (pck M width).1) (pck M width).2) true := by
    intro n
    refine Ev.step (fun k => by rw [columbariumlaw3_BitsTells.j0]) ?_
    refine Ev.bind (unpack_ev hB hBlen n width) (Ev.bind (unpack3_ev hB hBlen n width) (Ev.bind (width_ev hM (by omega)) (Ev.bind (width3_ev hM (by omega)) ?_)))
    have hu := unp_length B n width
    refine Ev.congr (fun k => by rw [if_pos rfl, if_pos rfl, if_pos rfl]) ?_
    refine Ev.bind (same64_ev _ _ (by omega)) ?_
    refine Ev.congr (fun k => by rw [if_pos (by simp), if_pos rfl, size_eq, Option.bind_some, size3_eq, Option.bind_some, if_pos rfl]) ?_
    exact Ev.bind known_ev (Ev.now _)
  by_cases h : n > 5000
  · exact Ev.congr (fun k => by rw [if_pos h]) (main 16777217)
  · exact Ev.congr (fun k => by rw [if_neg h]) (main n)

end Go.Proofs.Ytlalckngngppfaa.Pure
