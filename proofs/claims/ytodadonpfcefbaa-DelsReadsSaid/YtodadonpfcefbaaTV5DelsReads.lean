/- The document's Get. -/
import Derived.Test.YtodadonpfcefbaaTRADelsReads
import Derived.Test.YtodadonpfcefbaaQDelsReadsx12
import Derived.Test.YtodadonpfcefbaaTRefBitsDelsReads
namespace Go.Proofs.Ytodadonpfcefbaa.QDelsReads
open Go.RowKit Go.Proofs.YtodadonpfcefbaaW.PrintWords Go.Proofs.YtodadonpfcefbaaW.PrintLast Go.Proofs.YtodadonpfcefbaaW.PrintMore Go.Proofs.Ytodadonpfcefbaa.Base
set_option linter.unusedVariables false
set_option linter.unusedSimpArgs false
set_option linter.unusedSectionVars false

section
variable {C : List Nat} (hC : ∀ x ∈ C, x < 256) (a : Nat) (hlen : a + C.length < 140737488355328)
include hC hlen
/-! ### the document's -/
theorem get1_l1 (B : List Nat) (hB : B.drop a = C) (hBl : B.length = a + C.length) (hm : moreN C < C.length) (h10 : moreN C < 10) (d : Nat) : ∀ j, moreN C + 1 - j = d → j ≤ moreN C + 1 →
    Ev (fun k => columbariumref1_Get.l1 k (ints B) (a : Int) ((a + moreN C : Nat) : Int) ((moreN C + 1 : Nat) : Int) (gv C j) (j : Int)) (gv C (moreN C + 1), ((a + moreN C + 1 : Nat) : Int), 0) := by
  induction d with
  | zero =>
    intro j hd hj
    obtain rfl : j = moreN C + 1 := by omega
    refine Ev.step (f := fun _ => some _) (fun k => ?_) (Ev.now _)
    rw [columbariumref1_Get.l1, if_neg (by omega), succ64 (by omega)]
  | succ d ih =>
    intro j hd hj
    have e7 : IntKind.u64.wrap (wrap64 (7 * (j : Int))) = ((7 * j : Nat) : Int) := by rw [w64 (by omega) (by omega), wu64 (by omega) (by omega)]; omega
    have ea : wrap64 ((a : Int) + (j : Int)) = ((a + j : Nat) : Int) := by rw [w64 (by omega) (by omega)]; omega
    have hget : B.getD (a + j) 0 = C.getD j 0 := by rw [← hB, List.getD_eq_getElem?_getD, List.getD_eq_getElem?_getD, List.getElem?_drop]
    refine Ev.step (fun k => ?_) (ih (j + 1) (by omega) (by omega))
    rw [columbariumref1_Get.l1, if_pos (by omega), ea, if_pos (by omega), if_pos (by rw [ints_length]; omega), e7, if_pos (by omega), rd_ints, hget, succ64 (by omega)]
    rfl
theorem get1_j2 (B : List Nat) (hB : B.drop a = C) (hBl : B.length = a + C.length) : Ev (fun k => columbariumref1_Get.j2 k (ints B) (a : Int) ((a + moreN C : Nat) : Int)) (getR C a) := by
  have hle := moreN_le C
  have es : wrap64 (wrap64 (((a + moreN C : Nat) : Int) + 1) - (a : Int)) = ((moreN C + 1 : Nat) : Int) := by rw [succ64 (by omega), w64 (by omega) (by omega)]; omega
  by_cases hm : moreN C < C.length
  · have hlt := moreN_at C hm
    have hget : B.getD (a + moreN C) 0 = C.getD (moreN C) 0 := by rw [← hB, List.getD_eq_getElem?_getD, List.getD_eq_getElem?_getD, List.getElem?_drop]
    have hbad : ∀ s : Int, Ev (fun k => columbariumref1_Get.j3 k (ints B) (a : Int) ((a + moreN C : Nat) : Int) s true) (0, 0, 12) := fun s =>
      Ev.step (f := fun _ => some (0, 0, 12)) (fun k => by rw [columbariumref1_Get.j3, if_pos rfl]) (Ev.now _)
    have hgood : moreN C < 10 → Ev (fun k => columbariumref1_Get.j3 k (ints B) (a : Int) ((a + moreN C : Nat) : Int) ((moreN C + 1 : Nat) : Int) false) (gv C (moreN C + 1), ((a + moreN C + 1 : Nat) : Int), 0) := fun h10 =>
      Ev.step (fun k => by rw [columbariumref1_Get.j3, if_neg (by decide)]; rfl) (get1_l1 hC a hlen B hB hBl hm h10 _ 0 rfl (by omega))
    unfold getR
    rw [if_neg (by omega)]
    by_cases h1 : 10 < moreN C + 1
    · rw [if_pos (.inl h1)]
      refine Ev.step (fun k => ?_) (hbad ((moreN C + 1 : Nat) : Int))
      rw [columbariumref1_Get.j2, if_neg (by rw [ints_length]; omega), es, if_pos (by omega)]
    by_cases h2 : moreN C + 1 = 10
    · by_cases h3 : 1 < C.getD (moreN C) 0
      · rw [if_pos (.inr (.inl ⟨h2, h3⟩))]
        refine Ev.step (fun k => ?_) (hbad ((moreN C + 1 : Nat) : Int))
        rw [columbariumref1_Get.j2, if_neg (by rw [ints_length]; omega), es, if_neg (by omega), if_pos (by omega), if_pos (by omega), if_pos (by rw [ints_length]; omega), rd_ints, hget, if_pos (by omega)]
      · by_cases h4 : C.getD (moreN C) 0 = 0
        · rw [if_pos (.inr (.inr ⟨by omega, h4⟩))]
          refine Ev.step (fun k => ?_) (hbad ((moreN C + 1 : Nat) : Int))
          rw [columbariumref1_Get.j2, if_neg (by rw [ints_length]; omega), es, if_neg (by omega), if_pos (by omega), if_pos (by omega), if_pos (by rw [ints_length]; omega), rd_ints, hget, if_neg (by omega), if_pos (by omega), h4]
          rfl
        · rw [if_neg (by omega)]
          refine Ev.step (fun k => ?_) (hgood (by omega))
          rw [columbariumref1_Get.j2, if_neg (by rw [ints_length]; omega), es, if_neg (by omega), if_pos (by omega), if_pos (by omega), if_pos (by rw [ints_length]; omega), rd_ints, hget, if_neg (by omega), if_pos (by omega), show (((C.getD (moreN C) 0 : Nat) : Int) == 0) = false from beq_false_of_ne (by omega)]
    · by_cases h5 : 1 < moreN C + 1
      · by_cases h4 : C.getD (moreN C) 0 = 0
        · rw [if_pos (.inr (.inr ⟨by omega, h4⟩))]
          refine Ev.step (fun k => ?_) (hbad ((moreN C + 1 : Nat) : Int))
          rw [columbariumref1_Get.j2, if_neg (by rw [ints_length]; omega), es, if_neg (by omega), if_neg (by omega), if_pos (by omega), if_pos (by omega), if_pos (by rw [ints_length]; omega), rd_ints, hget, h4]
          rfl
        · rw [if_neg (by omega)]
          refine Ev.step (fun k => ?_) (hgood (by omega))
          rw [columbariumref1_Get.j2, if_neg (by rw [ints_length]; omega), es, if_neg (by omega), if_neg (by omega), if_pos (by omega), if_pos (by omega), if_pos (by rw [ints_length]; omega), rd_ints, hget, show (((C.getD (moreN C) 0 : Nat) : Int) == 0) = false from beq_false_of_ne (by omega)]
      · rw [if_neg (by omega)]
        refine Ev.step (fun k => ?_) (hgood (by omega))
        rw [columbariumref1_Get.j2, if_neg (by rw [ints_length]; omega), es, if_neg (by omega), if_neg (by omega), if_neg (by omega)]
  · refine Ev.step (f := fun _ => some (getR C a)) (fun k => ?_) (Ev.now _)
    rw [columbariumref1_Get.j2, if_pos (by rw [ints_length]; omega), getR, if_pos (by omega)]
theorem get1_l0 (B : List Nat) (hB : B.drop a = C) (hBl : B.length = a + C.length) (d : Nat) : ∀ j, moreN C - j = d → j ≤ moreN C → Ev (fun k => columbariumref1_Get.l0 k (ints B) (a : Int) ((a + j : Nat) : Int)) (getR C a) := by
  have hle := moreN_le C
  have hget : ∀ j, B.getD (a + j) 0 = C.getD j 0 := fun j => by rw [← hB, List.getD_eq_getElem?_getD, List.getD_eq_getElem?_getD, List.getElem?_drop]
  induction d with
  | zero =>
    intro j hd hj
    obtain rfl : j = moreN C := by omega
    refine Ev.step (fun k => ?_) (get1_j2 hC a hlen B hB hBl)
    by_cases hm : moreN C < C.length
    · have hlt := moreN_at C hm
      rw [columbariumref1_Get.l0, if_pos (by rw [ints_length]; omega), if_pos (by omega), rd_ints, hget, if_neg (by omega)]
    · rw [columbariumref1_Get.l0, if_neg (by rw [ints_length]; omega)]
  | succ d ih =>
    intro j hd hj
    have hge := moreN_lt C j (by omega)
    refine Ev.step (fun k => ?_) (ih (j + 1) (by omega) (by omega))
    rw [columbariumref1_Get.l0, if_pos (by rw [ints_length]; omega), if_pos (by omega), rd_ints, hget, if_pos (by omega), succ64 (by omega)]
    rfl
end
theorem get1_ev {B : List Nat} (hB : ∀ x ∈ B, x < 256) (hl : B.length ≤ 140737488355327) (a : Int) : Ev (fun k => columbariumref1_Get.f k (ints B) a) (getS B a) := by
  have hbad : Ev (fun k => columbariumref1_Get.j0 k (ints B) a true) (0, 0, 1) := Ev.step (f := fun _ => some (0, 0, 1)) (fun k => by rw [columbariumref1_Get.j0, if_pos rfl]) (Ev.now _)
  unfold getS
  by_cases h1 : a < 0
  · rw [if_pos (.inl h1)]
    exact Ev.congr (fun k => by rw [columbariumref1_Get.f, if_pos h1]) hbad
  by_cases h2 : a > (B.length : Int)
  · rw [if_pos (.inr h2)]
    exact Ev.congr (fun k => by rw [columbariumref1_Get.f, if_neg h1, decide_eq_true (by rw [ints_length]; exact h2)]) hbad
  rw [if_neg (by omega)]
  obtain ⟨n, rfl⟩ := Int.eq_ofNat_of_zero_le (show 0 ≤ a by omega)
  refine Ev.congr (fun k => by rw [columbariumref1_Get.f, if_neg h1, decide_eq_false (by rw [ints_length]; exact h2)]) ?_
  refine Ev.step (fun k => by rw [columbariumref1_Get.j0, if_neg (by decide)]) ?_
  exact get1_l0 (C := B.drop n) (fun x hx => hB x (List.mem_of_mem_drop hx)) n (by rw [List.length_drop]; omega) B rfl (by rw [List.length_drop]; omega) _ 0 rfl (Nat.zero_le _)

end Go.Proofs.Ytodadonpfcefbaa.QDelsReads

namespace Go.Proofs.Ytodadonpfcefbaa.QDelsReads
open Go.RowKit Go.Proofs.YtodadonpfcefbaaW.PrintWords Go.Proofs.YtodadonpfcefbaaW.PrintLast Go.Proofs.YtodadonpfcefbaaW.PrintMore Go.Proofs.Ytodadonpfcefbaa.Base
set_option linter.unusedVariables false
set_option linter.unusedSimpArgs false

theorem umod_nat (p w : Nat) (hw : w < 18446744073709551616) (h0 : 0 < w) : IntKind.u64.wrap (Int.tmod (p : Int) (w : Int)) = ((p % w : Nat) : Int) := by
  have := Nat.mod_lt p h0
  rw [tmod_nat, wu64 (by omega) (by omega)]
theorem divw {p w : Nat} (h : p < 9223372036854775808) : wrap64 (Int.tdiv (p : Int) (w : Int)) = ((p / w : Nat) : Int) := by
  have := Nat.div_le_self p w
  rw [tdiv_nat]
  generalize p / w = q at this ⊢
  rw [w64 (by omega) (by omega)]
theorem unpack3_l0 {B : List Nat} (hB : ∀ x ∈ B, x < 256) (hl : B.length ≤ 140737488351232) (n w : Nat) (hw : w ≤ 64) (hn : n ≤ 16777216) (d : Nat) : ∀ p, 8 * B.length - p = d → p ≤ 8 * B.length → val 8 B % 2 ^ p < 2 ^ (n * w) →
    Ev (fun k => columbariumref3_Unpack.l0 k (ints B) (n : Int) (w : Int) (ints (digits w n (val 8 B % 2 ^ p))) (p : Int)) (if val 8 B < 2 ^ (n * w) then (ints (digits w n (val 8 B)), 0) else ([], 12)) := by
  have hvl : val 8 B < 2 ^ (8 * B.length) := val_lt B (by simpa using hB)
  have hnw : n * w ≤ 16777216 * 64 := Nat.mul_le_mul hn hw
  have e8 : wrap64 (8 * ((ints B).length : Int)) = ((8 * B.length : Nat) : Int) := by rw [ints_length, w64 (by omega) (by omega)]; omega
  induction d with
  | zero =>
    intro p hd hp hv
    have hp' : p = 8 * B.length := by omega
    have hm : val 8 B % 2 ^ p = val 8 B := by rw [hp']; exact Nat.mod_eq_of_lt hvl
    rw [hm] at hv ⊢
    rw [if_pos hv]
    refine Ev.step (f := fun _ => some (ints (digits w n (val 8 B)), 0)) (fun k => ?_) (Ev.now _)
    rw [columbariumref3_Unpack.l0, e8, if_neg (by omega)]
  | succ d ih =>
    intro p hd hp hv
    have b1 : p < 9223372036854775807 := by omega
    have b2 : p < 9223372036854775808 := by omega
    have b3 : p / 8 < B.length := by omega
    have c1 : ((p : Nat) : Int) < ((8 * B.length : Nat) : Int) := by omega
    have c2 : (0 : Int) ≤ ((p / 8 : Nat) : Int) := by omega
    have c3 : ((p / 8 : Nat) : Int) < ((ints B).length : Int) := by rw [ints_length]; omega
    have c4 : (0 : Int) ≤ ((p % 8 : Nat) : Int) := by omega
    have hnext := ih (p + 1) (by omega) (by omega)
    have hask : Go.bits .and .u8 (shr .u8 (rd (ints B) ((p / 8 : Nat) : Int)) ((p % 8 : Nat) : Int)) 1 = (((val 8 B).testBit p).toNat : Int) := by
      rw [ask_bit hB, ← val_testBit_any (w := 8) (by decide) B (by simpa using hB) p]
    have hmp := mod_two_pow_succ (val 8 B) p
    cases hb : (val 8 B).testBit p with
    | false =>
      rw [hb] at hask hmp
      have hmp' : val 8 B % 2 ^ (p + 1) = val 8 B % 2 ^ p := by rw [hmp]; simp
      rw [hmp'] at hnext
      refine Ev.step (f := fun k => columbariumref3_Unpack.l0 k (ints B) (n : Int) (w : Int) (ints (digits w n (val 8 B % 2 ^ p))) ((p + 1 : Nat) : Int)) (fun k => ?_) (hnext hv)
      rw [columbariumref3_Unpack.l0]
      simp only [e8, div8 b2, umod8 p, if_pos c1, if_pos c2, if_pos c3, if_pos c4, hask]
      rw [if_pos (by rfl), succ64 b1]
    | true =>
      rw [hb] at hask hmp
      have hmp' : val 8 B % 2 ^ (p + 1) = val 8 B % 2 ^ p + 2 ^ p := by rw [hmp]; simp
      by_cases hge : n * w ≤ p
      · have h1 : 2 ^ (n * w) ≤ 2 ^ p := Nat.pow_le_pow_right (by decide) hge
        have h2 : val 8 B % 2 ^ (p + 1) ≤ val 8 B := Nat.mod_le _ _
        have h3 : ¬ val 8 B < 2 ^ (n * w) := by omega
        rw [if_neg h3]
        have c5 : ((p : Nat) : Int) ≥ ((n * w : Nat) : Int) := by omega
        have e9 := mul64 (i := n) (w := w) (by omega)
        refine Ev.step (f := fun _ => some ([], 12)) (fun k => ?_) (Ev.now _)
        rw [columbariumref3_Unpack.l0]
        simp only [e8, div8 b2, umod8 p, if_pos c1, if_pos c2, if_pos c3, if_pos c4, hask]
        rw [if_neg (by decide), e9, if_pos c5]
      · have hw0 : 0 < w := by
          rcases Nat.eq_zero_or_pos w with rfl | h
          · simp at hge
          · exact h
        have hr : p % w < w := Nat.mod_lt _ hw0
        have hq : p / w < n := by rw [Nat.div_lt_iff_lt_mul hw0]; omega
        have c5 : ¬ ((p : Nat) : Int) ≥ ((n * w : Nat) : Int) := by omega
        have c6 : ¬ ((w : Nat) : Int) = 0 := by omega
        have c7 : (0 : Int) ≤ ((p / w : Nat) : Int) := Int.natCast_nonneg _
        have c8 : ((p / w : Nat) : Int) < ((ints (digits w n (val 8 B % 2 ^ p))).length : Int) := by rw [ints_length, digits_length]; exact Int.ofNat_lt.2 hq
        have c9 : (0 : Int) ≤ ((p % w : Nat) : Int) := Int.natCast_nonneg _
        have h64 : p % w < 64 := by omega
        have hlt : val 8 B % 2 ^ (p + 1) < 2 ^ (n * w) := Nat.lt_of_lt_of_le (Nat.mod_lt _ (Nat.two_pow_pos _)) (Nat.pow_le_pow_right (by decide) (by omega))
        have hw2 : w < 18446744073709551616 := by omega
        have e9 := mul64 (i := n) (w := w) (by omega)
        have hset := digits_set n (val 8 B % 2 ^ p) (p / w) (p % w) true hr hq (by rw [Nat.div_add_mod]; exact Nat.mod_lt _ (Nat.two_pow_pos _))
        have h3 : true.toNat = 1 := rfl
        rw [Nat.div_add_mod, h3, Nat.mul_one, ← hmp'] at hset
        have hor : Go.bits .or .u64 (((digits w n (val 8 B % 2 ^ p)).getD (p / w) 0 : Nat) : Int) (shl .u64 1 ((p % w : Nat) : Int)) = (((digits w n (val 8 B % 2 ^ p)).getD (p / w) 0 ||| 1 <<< (p % w) : Nat) : Int) := by
          have h1 : (digits w n (val 8 B % 2 ^ p)).getD (p / w) 0 < 2 ^ 64 := Nat.lt_of_lt_of_le (getD_lt (Nat.two_pow_pos _) (digits_lt w n _) _) (Nat.pow_le_pow_right (by decide) hw)
          have h2 : 1 <<< (p % w) < 2 ^ 64 := by
            rw [Nat.shiftLeft_eq, Nat.one_mul]
            exact Nat.pow_lt_pow_right (by decide) h64
          rw [show (1 : Int) = ((1 : Nat) : Int) from rfl, shl64 (Nat.le_of_lt h64), Nat.mod_eq_of_lt h2, or64 h1 h2]
        refine Ev.step (f := fun k => columbariumref3_Unpack.l0 k (ints B) (n : Int) (w : Int) (ints (digits w n (val 8 B % 2 ^ (p + 1)))) ((p + 1 : Nat) : Int)) (fun k => ?_) (hnext hlt)
        rw [columbariumref3_Unpack.l0]
        simp only [e8, div8 b2, umod8 p, if_pos c1, if_pos c2, if_pos c3, if_pos c4, hask]
        rw [if_neg (by decide), e9, if_neg c5, if_neg c6]
        simp only [divw b2, umod_nat p w hw2 hw0, if_pos c7, if_pos c8, if_pos c9, rd_ints, hor]
        rw [Int.toNat_natCast, ints_set, hset, succ64 b1]
theorem unpack3_ev {B : List Nat} (hB : ∀ x ∈ B, x < 256) (hl : B.length ≤ 140737488351232) (n w : Int) : Ev (fun k => columbariumref3_Unpack.f k (ints B) n w) (ints (unp B n w).1, (unp B n w).2) := by
  unfold unp
  have end1 : ∀ n : Int, Ev (fun k => columbariumref3_Unpack.j0 k (ints B) n w true) ([], 15) := fun n => Ev.step (f := fun _ => some ([], 15)) (fun k => by rw [columbariumref3_Unpack.j0, if_pos rfl]) (Ev.now _)
  have end2 : ∀ n : Int, Ev (fun k => columbariumref3_Unpack.j1 k (ints B) n w true) ([], 1) := fun n => Ev.step (f := fun _ => some ([], 1)) (fun k => by rw [columbariumref3_Unpack.j1, if_pos rfl]) (Ev.now _)
  by_cases h1 : w < 0
  · rw [if_pos (.inl h1)]
    exact Ev.congr (fun k => by rw [columbariumref3_Unpack.f, if_pos h1]) (end1 n)
  by_cases h2 : w > 64
  · rw [if_pos (.inr h2)]
    exact Ev.congr (fun k => by rw [columbariumref3_Unpack.f, if_neg h1, decide_eq_true h2]) (end1 n)
  rw [if_neg (by omega)]
  refine Ev.congr (f := fun k => columbariumref3_Unpack.j0 k (ints B) n w false) (fun k => by rw [columbariumref3_Unpack.f, if_neg h1, decide_eq_false h2]) ?_
  by_cases h3 : n < 0
  · rw [if_pos (.inl h3)]
    exact Ev.step (fun k => by rw [columbariumref3_Unpack.j0, if_neg (by decide), if_pos h3]) (end2 n)
  by_cases h4 : n > 16777216
  · rw [if_pos (.inr h4)]
    exact Ev.step (fun k => by rw [columbariumref3_Unpack.j0, if_neg (by decide), if_neg h3, decide_eq_true h4]) (end2 n)
  rw [if_neg (by omega)]
  refine Ev.step (f := fun k => columbariumref3_Unpack.j1 k (ints B) n w false) (fun k => by rw [columbariumref3_Unpack.j0, if_neg (by decide), if_neg h3, decide_eq_false h4]) ?_
  by_cases h5 : (B.length : Int) < sizeOf_ n w
  · rw [if_pos h5]
    exact Ev.step (f := fun _ => some ([], 10)) (fun k => by rw [columbariumref3_Unpack.j1, if_neg (by decide), size3_eq, Option.bind_some, ints_length, if_pos h5]) (Ev.now _)
  rw [if_neg h5]
  by_cases h6 : (B.length : Int) > sizeOf_ n w
  · rw [if_pos h6]
    exact Ev.step (f := fun _ => some ([], 11)) (fun k => by rw [columbariumref3_Unpack.j1, if_neg (by decide), size3_eq, Option.bind_some, ints_length, if_neg h5, Option.bind_some, if_pos h6]) (Ev.now _)
  rw [if_neg h6]
  obtain ⟨a, rfl⟩ := Int.eq_ofNat_of_zero_le (show 0 ≤ n by omega)
  obtain ⟨b, rfl⟩ := Int.eq_ofNat_of_zero_le (show 0 ≤ w by omega)
  have hk := unpack3_l0 hB hl a b (by omega) (by omega) (8 * B.length) 0 rfl (by omega) (by rw [Nat.pow_zero, Nat.mod_one]; exact Nat.two_pow_pos _)
  have c1 : (0 : Int) ≤ ((a : Nat) : Int) := by omega
  have c2 : a ≤ 35184372088832 := by omega
  refine Ev.step (f := fun k => columbariumref3_Unpack.l0 k (ints B) (a : Int) (b : Int) (ints (digits b a (val 8 B % 2 ^ 0))) ((0 : Nat) : Int)) (fun k => ?_) ?_
  · rw [columbariumref3_Unpack.j1, if_neg (by decide), size3_eq, Option.bind_some, ints_length, if_neg h5, Option.bind_some, if_neg h6, if_pos c1, Int.toNat_natCast, if_pos c2, show (0 : Int) = ((0 : Nat) : Int) from rfl, ints_replicate, Nat.pow_zero, Nat.mod_one, digits_zero]
  · simp only [Int.toNat_natCast]
    by_cases h7 : 2 ^ (a * b) ≤ val 8 B
    · rw [if_neg (by omega)] at hk
      rw [if_pos h7]
      exact hk
    · rw [if_pos (by omega)] at hk
      rw [if_neg h7]
      exact hk

end Go.Proofs.Ytodadonpfcefbaa.QDelsReads
