/- The width of numbers is that of the greatest of them: with it all fit, with one less they don't. For every list of whole numbers. -/
import Derived.Test.YtlalckngngppfaaTBitsBitsWidth
namespace Go.Proofs.Ytlalckngngppfaa.Pure
open Go.RowKit Go.Proofs.Ytlalckngngppfaa.QBitsWidth Go.Proofs.YtlalckngngppfaaW.PrintWords Go.Proofs.YtlalckngngppfaaW.PrintLast Go.Proofs.YtlalckngngppfaaW.PrintMore Go.Proofs.Ytlalckngngppfaa.Base

theorem few_take (L : List Nat) : columbariumlaw3_few.f (ints L) = some (ints (L.take 60)) := by
  unfold columbariumlaw3_few.f
  by_cases h : ((ints L).length : Int) > 60
  · rw [if_pos h, if_pos (by omega), ints_take]
  · rw [if_neg h]
    rw [ints_length] at h
    rw [List.take_of_length_le (by omega)]
theorem known_ev : Ev (fun k => columbariumlaw3_known.f k) true := Ev.of columbariumlaw3_known.mono (k := 30) (by decide +kernel)
theorem zeros_ev (M : List Nat) (hM : M.length ≤ 60) (h0 : ∀ x ∈ M, x = 0) (d : Nat) : ∀ i, M.length - i = d → i ≤ M.length → Ev (fun k => columbariumlaw3_BitsWidth.l0 k (ints M) (i : Int)) true := by
  induction d with
  | zero =>
    intro i hd hi
    refine Ev.step (f := fun k => (columbariumlaw3_known.f k).bind fun t => some t) (fun k => by rw [columbariumlaw3_BitsWidth.l0, if_neg (by rw [ints_length]; omega)]) ?_
    exact Ev.bind known_ev (Ev.now _)
  | succ d ih =>
    intro i hd hi
    refine Ev.step (f := fun k => columbariumlaw3_BitsWidth.l0 k (ints M) ((i + 1 : Nat) : Int)) (fun k => ?_) (ih (i + 1) (by omega) (by omega))
    have h : M.getD i 0 = 0 := by
      rw [List.getD_eq_getElem?_getD, List.getElem?_eq_getElem (by omega)]
      exact h0 _ (List.getElem_mem _)
    rw [columbariumlaw3_BitsWidth.l0, if_pos (by rw [ints_length]; omega), if_pos (by omega), rd_ints, h, if_pos (by decide), w64 (by omega) (by omega)]
    rfl
theorem BitsWidth : columbariumlaw3_BitsWidth.Pure := by
  intro l hm hr hwf
  obtain ⟨L, rfl, hL⟩ := ints_of fun x hx => wf_u64 (hwf x hx)
  refine Ev.rounds ?_
  have hM : ∀ x ∈ L.take 60, x < 2 ^ 64 := fun x hx => hL x (List.mem_of_mem_take hx)
  have hlen : (L.take 60).length ≤ 60 := by rw [List.length_take]; omega
  generalize hMe : L.take 60 = M at hM hlen
  refine Ev.congr (f := fun k => (bits_Width.f k (ints M)).bind fun t131 => ((bits_Pack.f k (ints M) t131).bind fun bt132 => (if t131 < 0 then (columbariumlaw3_BitsWidth.j0 k (ints M) t131 true) else (if t131 > 64 then (columbariumlaw3_BitsWidth.j0 k (ints M) t131 true) else (columbariumlaw3_BitsWidth.j0 k (ints M) t131 (bt132.2 != 0)))))) (fun k => ?_) ?_
  · rw [columbariumlaw3_BitsWidth.f, few_take, hMe]
    rfl
  have h64 := wd_64 hM
  refine Ev.bind (width_ev hM (by omega)) (Ev.bind (pack_ev h64 ((wd_le M _).1 (Nat.le_refl _)) (by omega)) ?_)
  refine Ev.congr (f := fun k => columbariumlaw3_BitsWidth.j0 k (ints M) (wd M : Int) false) (fun k => by rw [if_neg (by omega), if_neg (by omega)]; rfl) ?_
  by_cases hz : wd M = 0
  · refine Ev.step (f := fun k => columbariumlaw3_BitsWidth.l0 k (ints M) ((0 : Nat) : Int)) (fun k => by rw [columbariumlaw3_BitsWidth.j0, if_neg (by decide), hz, if_pos (by decide)]; rfl) ?_
    refine zeros_ev M hlen (fun x hx => ?_) M.length 0 (by omega) (by omega)
    have := (wd_le M 0).1 (by omega) x hx
    omega
  · refine Ev.step (f := fun k => (bits_Pack.f k (ints M) ((wd M : Int) - 1)).bind fun bt138 => (if bt138.2 = 15 then ((columbariumlaw3_known.f k).bind fun t142 => (some t142)) else (some false))) (fun k => by rw [columbariumlaw3_BitsWidth.j0, if_neg (by decide), if_neg (by omega), w64 (by omega) (by omega)]) ?_
    refine Ev.bind (pack_no hM (by omega) (by omega)) ?_
    exact Ev.congr (fun k => by rw [if_pos rfl]) (Ev.bind known_ev (Ev.now _))

end Go.Proofs.Ytlalckngngppfaa.Pure
