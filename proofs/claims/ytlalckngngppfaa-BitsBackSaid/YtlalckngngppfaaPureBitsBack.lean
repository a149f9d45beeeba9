/- What is packed, with as many bits as are needed or more, is unpacked; into as many bytes as Size tells; other lists are other bytes. For every two lists of whole numbers and number. -/
import Derived.Test.YtlalckngngppfaaTUnpackBitsBack
import Derived.Test.YtlalckngngppfaaTSame64BitsBack
import Derived.Test.YtlalckngngppfaaTBookBitsBack
namespace Go.Proofs.Ytlalckngngppfaa.Pure
open Go.RowKit Go.Proofs.Ytlalckngngppfaa.QBitsBack Go.Proofs.YtlalckngngppfaaW.PrintWords Go.Proofs.YtlalckngngppfaaW.PrintLast Go.Proofs.YtlalckngngppfaaW.PrintMore Go.Proofs.Ytlalckngngppfaa.Base
set_option linter.unusedVariables false
set_option linter.unusedSimpArgs false

theorem few_take (L : List Nat) : columbariumlaw3_few.f (ints L) = some (ints (L.take 60)) := by
  unfold columbariumlaw3_few.f
  by_cases h : ((ints L).length : Int) > 60
  · rw [if_pos h, if_pos (by omega), ints_take]
  · rw [if_neg h]
    rw [ints_length] at h
    rw [List.take_of_length_le (by omega)]
theorem known_ev : Ev (fun k => columbariumlaw3_known.f k) true := Ev.of columbariumlaw3_known.mono (k := 30) (by decide +kernel)
theorem val_packed {M : List Nat} {w : Nat} (h : ∀ x ∈ M, x < 2 ^ w) : val 8 (packed M w) = val w M := by
  rw [packed, val_digits]
  refine Nat.mod_eq_of_lt (Nat.lt_of_lt_of_le (val_lt M h) (Nat.pow_le_pow_right (by decide) ?_))
  rw [Nat.mul_comm w]
  omega
theorem unp_packed {M : List Nat} {w : Nat} (h : ∀ x ∈ M, x < 2 ^ w) (hw : w ≤ 64) (hl : M.length ≤ 16777216) : unp (packed M w) (M.length : Int) (w : Int) = (M, 0) := by
  have hs := size_nat (n := M.length) (w := w) hl hw
  unfold unp
  rw [if_neg (by omega), if_neg (by omega), hs, packed_length, if_neg (by omega), if_neg (by omega), Int.toNat_natCast, Int.toNat_natCast, val_packed h, if_neg, digits_val M h]
  rw [Nat.mul_comm]
  exact Nat.not_le.2 (val_lt M h)
theorem packed_inj {M M' : List Nat} {w : Nat} (h : ∀ x ∈ M, x < 2 ^ w) (h' : ∀ x ∈ M', x < 2 ^ w) (hl : M.length = M'.length) : packed M w = packed M' w ↔ M = M' := by
  constructor
  · intro e
    refine val_inj hl h h' ?_
    rw [← val_packed h, ← val_packed h', e]
  · intro e
    rw [e]
theorem back_j0 {M M' : List Nat} (hM : ∀ x ∈ M, x < 2 ^ 64) (hM' : ∀ x ∈ M', x < 2 ^ 64) (hl : M.length ≤ 60) (hl' : M'.length ≤ 60) (more : Int) (v : Nat) (hv : v ≤ 64) (h1 : wd M ≤ v) (h2 : wd M' ≤ v) :
    Ev (fun k => columbariumlaw3_BitsBack.j0 k (ints M) (ints M') more (v : Int)) true := by
  obtain ⟨q, hq, hwi⟩ := within_some more (64 - v) (by omega)
  have hwi' : columbariumbook_Within.f more 0 (wrap64 (64 - (v : Int))) = some (q : Int) := by
    rw [w64 (by omega) (by omega), ← hwi]
    congr 1
    omega
  have hw : v + q ≤ 64 := by omega
  have e1 : wrap64 ((v : Int) + (q : Int)) = ((v + q : Nat) : Int) := by rw [w64 (by omega) (by omega)]; omega
  have g1 : ∀ x ∈ M, x < 2 ^ (v + q) := (wd_le M _).1 (by omega)
  have g2 : ∀ x ∈ M', x < 2 ^ (v + q) := (wd_le M' _).1 (by omega)
  generalize v + q = w at hw e1 g1 g2
  refine Ev.step (fun k => by rw [columbariumlaw3_BitsBack.j0, hwi', Option.bind_some, e1]) ?_
  refine Ev.bind (pack_ev hw g1 (by omega)) (Ev.bind (pack_ev hw g2 (by omega)) ?_)
  have hu := unpack_ev (packed_lt M w) (by rw [packed_length]; have := Nat.mul_le_mul hl hw; omega) (M.length : Int) (w : Int)
  rw [unp_packed g1 hw (by omega)] at hu
  refine Ev.congr (fun k => by rw [ints_length]) ?_
  refine Ev.bind hu ?_
  refine Ev.congr (fun k => by rw [if_pos rfl, if_pos rfl, if_pos rfl]) ?_
  refine Ev.bind (same64_ev M M (by omega)) ?_
  have hs : (((ints (packed M w)).length : Int) != sizeOf_ (M.length : Int) (w : Int)) = false := by
    rw [size_nat (by omega) hw, ints_length, packed_length]
    simp
  refine Ev.congr (fun k => by rw [if_pos (by simp), size_eq, Option.bind_some, hs]) ?_
  by_cases hlen : M.length = M'.length
  · refine Ev.step (fun k => by rw [columbariumlaw3_BitsBack.j1, if_neg (by decide), if_pos (by rw [ints_length, ints_length, hlen])]) ?_
    refine Ev.bind (same64_ev M M' (by omega)) ?_
    have he : (((strOfNums (ints (packed M w))).toList == (strOfNums (ints (packed M' w))).toList) == decide (M = M')) = true := by
      have h3 := str_inj (packed_lt M w) (packed_lt M' w)
      have h4 := packed_inj g1 g2 hlen
      by_cases h : M = M'
      · rw [h]
        simp
      · have h5 : ¬ (strOfNums (ints (packed M w))).toList = (strOfNums (ints (packed M' w))).toList := fun e => h (h4.1 (h3.1 e))
        rw [decide_eq_false h, beq_eq_false_iff_ne.mpr h5]
        rfl
    exact Ev.congr (fun k => by rw [if_pos he]) (Ev.bind known_ev (Ev.now _))
  · refine Ev.step (fun k => by rw [columbariumlaw3_BitsBack.j1, if_neg (by decide), if_neg (by rw [ints_length, ints_length]; omega)]) ?_
    exact Ev.bind known_ev (Ev.now _)
theorem BitsBack : columbariumlaw3_BitsBack.Pure := by
  intro l m more hm hr hwf hm' hr' hwf' hmore
  obtain ⟨L, rfl, hL⟩ := ints_of fun x hx => wf_u64 (hwf x hx)
  obtain ⟨L', rfl, hL'⟩ := ints_of fun x hx => wf_u64 (hwf' x hx)
  refine Ev.rounds ?_
  have hM : ∀ x ∈ L.take 60, x < 2 ^ 64 := fun x hx => hL x (List.mem_of_mem_take hx)
  have hM' : ∀ x ∈ L'.take 60, x < 2 ^ 64 := fun x hx => hL' x (List.mem_of_mem_take hx)
  have hlen : (L.take 60).length ≤ 60 := by rw [List.length_take]; omega
  have hlen' : (L'.take 60).length ≤ 60 := by rw [List.length_take]; omega
  have hfew := few_take L
  have hfew' := few_take L'
  generalize L.take 60 = M at hM hlen hfew
  generalize L'.take 60 = M' at hM' hlen' hfew'
  refine Ev.congr (fun k => by rw [columbariumlaw3_BitsBack.f, hfew, Option.bind_some, hfew', Option.bind_some]) ?_
  refine Ev.bind (width_ev hM (by omega)) (Ev.bind (width_ev hM' (by omega)) ?_)
  have h1 := wd_64 hM
  have h2 := wd_64 hM'
  by_cases h : ((wd M' : Nat) : Int) > ((wd M : Nat) : Int)
  · exact Ev.congr (fun k => by rw [if_pos h]) (back_j0 hM hM' hlen hlen' more _ h2 (by omega) (by omega))
  · exact Ev.congr (fun k => by rw [if_neg h]) (back_j0 hM hM' hlen hlen' more _ h1 (by omega) (by omega))

end Go.Proofs.Ytlalckngngppfaa.Pure
