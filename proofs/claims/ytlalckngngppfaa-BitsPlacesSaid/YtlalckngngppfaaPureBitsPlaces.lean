/- Each number stands at its bits, whatever stands about it: turned alone it turns these bits alone. For every list of whole numbers, place and number. -/
import Derived.Test.YtlalckngngppfaaTBitsBitsPlaces
namespace Go.Proofs.Ytlalckngngppfaa.Pure
open Go.RowKit Go.Proofs.Ytlalckngngppfaa.QBitsPlaces Go.Proofs.YtlalckngngppfaaW.PrintWords Go.Proofs.YtlalckngngppfaaW.PrintLast Go.Proofs.YtlalckngngppfaaW.PrintMore Go.Proofs.Ytlalckngngppfaa.Base

theorem few_take (L : List Nat) : columbariumlaw3_few.f (ints L) = some (ints (L.take 60)) := by
  unfold columbariumlaw3_few.f
  by_cases h : ((ints L).length : Int) > 60
  · rw [if_pos h, if_pos (by omega), ints_take]
  · rw [if_neg h]
    rw [ints_length] at h
    rw [List.take_of_length_le (by omega)]
theorem known_ev : Ev (fun k => columbariumlaw3_known.f k) true := Ev.of columbariumlaw3_known.mono (k := 30) (by decide +kernel)
theorem within_some (n : Int) (hi : Nat) (h : hi < 1000000000) : ∃ r : Nat, r ≤ hi ∧ columbariumbook_Within.f n 0 (hi : Int) = some (r : Int) := by
  have e : wrap64 ((wrap64 ((hi : Int) - 0)) + 1) = ((hi + 1 : Nat) : Int) := by rw [w64 (x := (hi : Int) - 0) (by omega) (by omega), w64 (by omega) (by omega)]; omega
  have b1 := Int.tmod_lt_of_pos n (show (0 : Int) < ((hi + 1 : Nat) : Int) by omega)
  have b2 : -((hi + 1 : Nat) : Int) < Int.tmod n ((hi + 1 : Nat) : Int) := by
    have := Int.lt_tmod_of_pos n (show (0 : Int) < ((hi + 1 : Nat) : Int) by omega)
    omega
  unfold columbariumbook_Within.f
  rw [e, if_neg (by omega)]
  generalize Int.tmod n ((hi + 1 : Nat) : Int) = t at b1 b2 ⊢
  by_cases ht : t < 0
  · refine ⟨(t + hi + 1).toNat, by omega, ?_⟩
    rw [if_pos ht, w64 (x := t + (hi : Int)) (by omega) (by omega), w64 (x := t + (hi : Int) - 0) (by omega) (by omega), w64 (x := t + (hi : Int) - 0 + 1) (by omega) (by omega), w64 (by omega) (by omega)]
    congr 1
    omega
  · refine ⟨t.toNat, by omega, ?_⟩
    rw [if_neg ht, w64 (by omega) (by omega)]
    congr 1
    omega
theorem places_l0 (M : List Nat) (v w q : Nat) (hw : w ≤ 64) (hM : ∀ x ∈ M, x < 2 ^ w) (hv : v < 2 ^ w) (hq : q < M.length) (hlen : M.length ≤ 60) (d : Nat) : ∀ p, 8 * ((M.length * w + 7) / 8) - p = d → p ≤ 8 * ((M.length * w + 7) / 8) →
    Ev (fun k => columbariumlaw3_BitsPlaces.l0 k (ints M) (v : Int) (q : Int) (w : Int) (ints (packed M w)) (ints (packed (M.set q v) w)) (p : Int)) true := by
  have hmw : M.length * w ≤ 60 * 64 := Nat.mul_le_mul hlen hw
  have hqw : (q + 1) * w ≤ M.length * w := Nat.mul_le_mul_right _ hq
  have hqw' : (q + 1) * w = q * w + w := Nat.succ_mul _ _
  induction d with
  | zero =>
    intro p hd hp
    refine Ev.step (f := fun k => (columbariumlaw3_known.f k).bind fun t => some t) (fun k => by rw [columbariumlaw3_BitsPlaces.l0, if_neg (by rw [ints_length, packed_length, w64 (by omega) (by omega)]; omega)]) ?_
    exact Ev.bind known_ev (Ev.now _)
  | succ d ih =>
    intro p hd hp
    have hw0 : 0 < w := by
      rcases Nat.eq_zero_or_pos w with rfl | h
      · omega
      · exact h
    have hM' : ∀ x ∈ M.set q v, x < 2 ^ w := fun x hx => by
      rcases List.mem_or_eq_of_mem_set hx with h | rfl
      · exact hM x h
      · exact hv
    have hx64 : M.getD q 0 < 2 ^ 64 := Nat.lt_of_lt_of_le (getD_lt (Nat.two_pow_pos _) hM q) (Nat.pow_le_pow_right (by decide) hw)
    have hv64 : v < 2 ^ 64 := Nat.lt_of_lt_of_le hv (Nat.pow_le_pow_right (by decide) hw)
    have hN : p / 8 < (M.length * w + 7) / 8 := by omega
    refine Ev.step (f := fun k => columbariumlaw3_BitsPlaces.l0 k (ints M) (v : Int) (q : Int) (w : Int) (ints (packed M w)) (ints (packed (M.set q v) w)) ((p + 1 : Nat) : Int)) (fun k => ?_) (ih (p + 1) (by omega) (by omega))
    have hp63 : p < 9223372036854775808 := by omega
    have hba : Go.bits .and .u8 (shr .u8 (rd (ints (packed M w)) ((p / 8 : Nat) : Int)) ((p % 8 : Nat) : Int)) 1 = (((M.getD (p / w) 0).testBit (p % w)).toNat : Int) := by
      rw [ask_bit (packed_lt M w), packed_bit _ _ _ hN, val_testBit_any hw0 M hM]
    have hbb : Go.bits .and .u8 (shr .u8 (rd (ints (packed (M.set q v) w)) ((p / 8 : Nat) : Int)) ((p % 8 : Nat) : Int)) 1 = ((((M.set q v).getD (p / w) 0).testBit (p % w)).toNat : Int) := by
      rw [ask_bit (packed_lt _ w), packed_bit _ _ _ (by rw [List.length_set]; exact hN), val_testBit_any hw0 _ hM']
    have e1 : wrap64 ((q : Int) * (w : Int)) = ((q * w : Nat) : Int) := by
      rw [show (q : Int) * (w : Int) = ((q * w : Nat) : Int) by simp, w64 (by omega) (by omega)]
    have e2 : wrap64 (((q * w : Nat) : Int) + (w : Int)) = ((q * w + w : Nat) : Int) := by rw [w64 (by omega) (by omega)]; omega
    have e3 : wrap64 (8 * (((M.length * w + 7) / 8 : Nat) : Int)) = ((8 * ((M.length * w + 7) / 8) : Nat) : Int) := by rw [w64 (by omega) (by omega)]; omega
    have e4 : wrap64 ((p : Int) + 1) = ((p + 1 : Nat) : Int) := by rw [w64 (by omega) (by omega)]; rfl
    have la : ((ints (packed M w)).length : Int) = (((M.length * w + 7) / 8 : Nat) : Int) := by rw [ints_length, packed_length]
    have lb : ((ints (packed (M.set q v) w)).length : Int) = (((M.length * w + 7) / 8 : Nat) : Int) := by rw [ints_length, packed_length, List.length_set]
    have lm : ((ints M).length : Int) = (M.length : Int) := by rw [ints_length]
    rw [columbariumlaw3_BitsPlaces.l0]
    simp only [e3, div8 hp63, umod8 p, e1, e2, hba, hbb, ubool, e4, la, lb, lm]
    clear e1 e2 e3 e4 hba hbb la lb lm
    by_cases hin : q * w ≤ p ∧ p < q * w + w
    · have hdiv : p / w = q := by
        rw [Nat.div_eq_iff hw0, Nat.mul_comm]
        constructor <;> (rw [Nat.mul_comm]; omega)
      have hmod : p - q * w = p % w := by
        have := Nat.div_add_mod p w
        rw [hdiv, Nat.mul_comm] at this
        omega
      have e5 : IntKind.u64.wrap (wrap64 ((p : Int) - ((q * w : Nat) : Int))) = ((p % w : Nat) : Int) := by
        rw [w64 (by omega) (by omega), wu64 (by omega) (by omega)]
        omega
      have hs : (M.set q v).getD q 0 = v := by simp [List.getD_eq_getElem?_getD, hq]
      have hb1 := ask_bit64 hx64 (j := p % w) (by have := Nat.mod_lt p hw0; omega)
      have hb2 := ask_bit64 hv64 (j := p % w) (by have := Nat.mod_lt p hw0; omega)
      rw [hdiv, hs, e5, rd_ints, hb1, hb2]
      rw [if_pos (by omega), if_pos (by omega), if_pos (by omega), if_pos (by omega), if_pos (by omega), if_pos (by omega), if_pos (by omega), if_pos (by omega), if_pos (by omega), if_pos (by omega), if_pos rfl, if_pos rfl]
    · have hdiv : p / w ≠ q := by
        intro h
        have h1 := Nat.div_add_mod p w
        have h2 := Nat.mod_lt p hw0
        rw [h, Nat.mul_comm] at h1
        omega
      have hs : (M.set q v).getD (p / w) 0 = M.getD (p / w) 0 := by
        simp only [List.getD_eq_getElem?_getD]
        rw [List.getElem?_set_ne (Ne.symm hdiv)]
      rw [hs]
      rw [if_pos (by omega), if_pos (by omega), if_pos (by omega), if_pos (by omega), if_pos (by omega)]
      by_cases h1 : (p : Int) ≥ ((q * w : Nat) : Int)
      · rw [if_pos h1, if_neg (by omega), if_pos rfl]
      · rw [if_neg h1, if_pos rfl]
theorem BitsPlaces : columbariumlaw3_BitsPlaces.Pure := by
  intro l at_ v hm hr hwf hat hv
  obtain ⟨L, rfl, hL⟩ := ints_of fun x hx => wf_u64 (hwf x hx)
  obtain ⟨hv0, hv1⟩ := wf_u64 hv
  obtain ⟨v, rfl⟩ := Int.eq_ofNat_of_zero_le hv0
  have hv64 : v < 2 ^ 64 := by omega
  refine Ev.rounds ?_
  have hM : ∀ x ∈ L.take 60, x < 2 ^ 64 := fun x hx => hL x (List.mem_of_mem_take hx)
  have hlen : (L.take 60).length ≤ 60 := by rw [List.length_take]; omega
  have hfew := few_take L
  generalize hMe : L.take 60 = M at hM hlen hfew
  by_cases h0 : M.length = 0
  · refine Ev.congr (f := fun k => (columbariumlaw3_known.f k).bind fun t => some t) (fun k => ?_) (Ev.bind known_ev (Ev.now _))
    rw [columbariumlaw3_BitsPlaces.f, hfew, Option.bind_some, if_pos (by rw [ints_length]; omega)]
  obtain ⟨q, hq, hwi⟩ := within_some at_ (M.length - 1) (by omega)
  have hlm : ((ints M).length : Int) = (M.length : Int) := by rw [ints_length]
  have hwi' : columbariumbook_Within.f at_ 0 (wrap64 (((ints M).length : Int) - 1)) = some (q : Int) := by
    rw [hlm, w64 (by omega) (by omega), ← hwi]
    congr 1
    omega
  have hMv : ∀ x ∈ M ++ [v], x < 2 ^ 64 := fun x hx => by
    rcases List.mem_append.1 hx with h | h
    · exact hM x h
    · rw [List.mem_singleton.1 h]; exact hv64
  have hW : ∀ x ∈ M ++ [v], x < 2 ^ wd (M ++ [v]) := (wd_le _ _).1 (Nat.le_refl _)
  have hW64 := wd_64 hMv
  have hMW : ∀ x ∈ M, x < 2 ^ wd (M ++ [v]) := fun x hx => hW x (List.mem_append_left _ hx)
  have hvW : v < 2 ^ wd (M ++ [v]) := hW v (List.mem_append_right _ (List.mem_singleton.2 rfl))
  refine Ev.congr (fun k => by rw [columbariumlaw3_BitsPlaces.f, hfew, Option.bind_some, if_neg (by omega), hwi', Option.bind_some, Option.bind_some, if_pos (by rw [ints_length]; simp; omega), Option.bind_some, List.nil_append, if_pos (by rw [ints_length]; omega), show ints M ++ [(v : Int)] = ints (M ++ [v]) from ints_append M [v]]) ?_
  refine Ev.bind (width_ev hMv (by rw [List.length_append, List.length_singleton]; omega)) ?_
  refine Ev.congr (fun k => by rw [Option.bind_some, if_pos (by rw [ints_length]; simp; omega), Option.bind_some, List.nil_append, if_pos (by omega), if_pos (by omega), Int.toNat_natCast, ints_set]) ?_
  refine Ev.bind (pack_ev hW64 hMW (by omega)) ?_
  have hMs : ∀ x ∈ M.set q v, x < 2 ^ wd (M ++ [v]) := fun x hx => by
    rcases List.mem_or_eq_of_mem_set hx with h | rfl
    · exact hMW x h
    · exact hvW
  refine Ev.bind (pack_ev hW64 hMs (by rw [List.length_set]; omega)) ?_
  refine Ev.congr (fun k => by rw [if_pos rfl, if_pos rfl]) ?_
  have e : (((ints (packed M (wd (M ++ [v])))).length : Int) != ((ints (packed (M.set q v) (wd (M ++ [v])))).length : Int)) = false := by
    rw [ints_length, ints_length, packed_length, packed_length, List.length_set]
    simp
  rw [e]
  refine Ev.step (fun k => by rw [columbariumlaw3_BitsPlaces.j0, if_neg (by decide)]) ?_
  exact places_l0 M v _ q hW64 hMW hvW (by omega) hlen _ 0 rfl (by omega)

end Go.Proofs.Ytlalckngngppfaa.Pure
