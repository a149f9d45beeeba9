/- columbariumref3.Unpack, as printed for RunsShapes: it comes to what bits.Unpack does. -/
import Derived.Test.YtpnnfkefddkjcaaTRefBitsRunsShapes
namespace Go.Proofs.Ytpnnfkefddkjcaa.QRunsShapes
open Go.RowKit Go.Proofs.YtpnnfkefddkjcaaW.PrintWords Go.Proofs.YtpnnfkefddkjcaaW.PrintLast Go.Proofs.YtpnnfkefddkjcaaW.PrintMore Go.Proofs.Ytpnnfkefddkjcaa.Base
set_option linter.unusedVariables false
set_option linter.unusedSimpArgs false

theorem umod_nat (p w : Nat) (hw : w < 18446744073709551616) (h0 : 0 < w) : IntKind.u64.wrap (Int.tmod (p : Int) (w : Int)) = ((p % w : Nat) : Int) := by
  have := Nat.mod_lt p h0
  rw [tmod_nat, wu64 (by omega) (by omega)]
theorem divw {p w : Nat} (h : p < 9223372036854775808) : wrap64 (Int.tdiv (p : Int) (w : Int)) = ((p / w : Nat) : Int) := by
  have := Nat.div_le_self p w
  rw [tdiv_nat]
  generalize p / w = q at this ⊢
  rw [w64 (by omega) (by omega)]
theorem unpack3_l0 {B : List Nat} (hB : ∀ x ∈ B, x < 256) (hl : B.length ≤ 140737488351232) (n w : Nat) (hw : w ≤ 64) (hn : n ≤ 16777216) (d : Nat) : ∀ p, 8 * B.length - p = d → p ≤ 8 * B.length → val 8 B % 2 ^ p < 2 ^ (n * w) →
    Ev (fun k => columbariumref3_Unpack.l0 k (ints B) (n : Int) (w : Int) (ints (digits w n (val 8 B % 2 ^ p))) (p : Int)) (if val 8 B < 2 ^ (n * w) then (ints (digits w n (val 8 B)), 0) else ([], 12)) := by
  have hvl : val 8 B < 2 ^ (8 * B.length) := val_lt B (by simpa using hB)
  have hnw : n * w ≤ 16777216 * 64 := Nat.mul_le_mul hn hw
  have e8 : wrap64 (8 * ((ints B).length : Int)) = ((8 * B.length : Nat) : Int) := by rw [ints_length, w64 (by omega) (by omega)]; omega
  induction d with
  | zero =>
    intro p hd hp hv
    have hp' : p = 8 * B.length := by omega
    have hm : val 8 B % 2 ^ p = val 8 B := by rw [hp']; exact Nat.mod_eq_of_lt hvl
    rw [hm] at hv ⊢
    rw [if_pos hv]
    refine Ev.step (f := fun _ => some (ints (digits w n (val 8 B)), 0)) (fun k => ?_) (Ev.now _)
    rw [columbariumref3_Unpack.l0, e8, if_neg (by omega)]
  | succ d ih =>
    intro p hd hp hv
    have b1 : p < 9223372036854775807 := by omega
    have b2 : p < 9223372036854775808 := by omega
    have b3 : p / 8 < B.length := by omega
    have c1 : ((p : Nat) : Int) < ((8 * B.length : Nat) : Int) := by omega
    have c2 : (0 : Int) ≤ ((p / 8 : Nat) : Int) := by omega
    have c3 : ((p / 8 : Nat) : Int) < ((ints B).length : Int) := by rw [ints_length]; omega
    have c4 : (0 : Int) ≤ ((p % 8 : Nat) : Int) := by omega
    have hnext := ih (p + 1) (by omega) (by omega)
    have hask : Go.bits .and .u8 (shr .u8 (rd (ints B) ((p / 8 : Nat) : Int)) ((p % 8 : Nat) : Int)) 1 = (((val 8 B).testBit p).toNat : Int) := by
      rw [ask_bit hB, ← val_testBit_any (w := 8) (by decide) B (by simpa using hB) p]
    have hmp := mod_two_pow_succ (val 8 B) p
    cases hb : (val 8 B).testBit p with
    | false =>
      rw [hb] at hask hmp
      have hmp' : val 8 B % 2 ^ (p + 1) = val 8 B % 2 ^ p := by rw [hmp]; simp
      rw [hmp'] at hnext
      refine Ev.step (f := fun k => columbariumref3_Unpack.l0 k (ints B) (n : Int) (w : Int) (ints (digits w n (val 8 B % 2 ^ p))) ((p + 1 : Nat) : Int)) (fun k => ?_) (hnext hv)
      rw [columbariumref3_Unpack.l0]
      simp only [e8, div8 b2, umod8 p, if_pos c1, if_pos c2, if_pos c3, if_pos c4, hask]
      rw [if_pos (by rfl), succ64 b1]
    | true =>
      rw [hb] at hask hmp
      have hmp' : val 8 B % 2 ^ (p + 1) = val 8 B % 2 ^ p + 2 ^ p := by rw [hmp]; simp
      by_cases hge : n * w ≤ p
      · have h1 : 2 ^ (n * w) ≤ 2 ^ p := Nat.pow_le_pow_right (by decide) hge
        have h2 : val 8 B % 2 ^ (p + 1) ≤ val 8 B := Nat.mod_le _ _
        have h3 : ¬ val 8 B < 2 ^ (n * w) := by omega
        rw [if_neg h3]
        have c5 : ((p : Nat) : Int) ≥ ((n * w : Nat) : Int) := by omega
        have e9 := mul64 (i := n) (w := w) (by omega)
        refine Ev.step (f := fun _ => some ([], 12)) (fun k => ?_) (Ev.now _)
        rw [columbariumref3_Unpack.l0]
        simp only [e8, div8 b2, umod8 p, if_pos c1, if_pos c2, if_pos c3, if_pos c4, hask]
        rw [if_neg (by decide), e9, if_pos c5]
      · have hw0 : 0 < w := by
          rcases Nat.eq_zero_or_pos w with rfl | h
          · simp at hge
          · exact h
        have hr : p % w < w := Nat.mod_lt _ hw0
        have hq : p / w < n := by rw [Nat.div_lt_iff_lt_mul hw0]; omega
        have c5 : ¬ ((p : Nat) : Int) ≥ ((n * w : Nat) : Int) := by omega
        have c6 : ¬ ((w : Nat) : Int) = 0 := by omega
        have c7 : (0 : Int) ≤ ((p / w : Nat) : Int) := Int.natCast_nonneg _
        have c8 : ((p / w : Nat) : Int) < ((ints (digits w n (val 8 B % 2 ^ p))).length : Int) := by rw [ints_length, digits_length]; exact Int.ofNat_lt.2 hq
        have c9 : (0 : Int) ≤ ((p % w : Nat) : Int) := Int.natCast_nonneg _
        have h64 : p % w < 64 := by omega
        have hlt : val 8 B % 2 ^ (p + 1) < 2 ^ (n * w) := Nat.lt_of_lt_of_le (Nat.mod_lt _ (Nat.two_pow_pos _)) (Nat.pow_le_pow_right (by decide) (by omega))
        have hw2 : w < 18446744073709551616 := by omega
        have e9 := mul64 (i := n) (w := w) (by omega)
        have hset := digits_set n (val 8 B % 2 ^ p) (p / w) (p % w) true hr hq (by rw [Nat.div_add_mod]; exact Nat.mod_lt _ (Nat.two_pow_pos _))
        have h3 : true.toNat = 1 := rfl
        rw [Nat.div_add_mod, h3, Nat.mul_one, ← hmp'] at hset
        have hor : Go.bits .or .u64 (((digits w n (val 8 B % 2 ^ p)).getD (p / w) 0 : Nat) : Int) (shl .u64 1 ((p % w : Nat) : Int)) = (((digits w n (val 8 B % 2 ^ p)).getD (p / w) 0 ||| 1 <<< (p % w) : Nat) : Int) := by
          have h1 : (digits w n (val 8 B % 2 ^ p)).getD (p / w) 0 < 2 ^ 64 := Nat.lt_of_lt_of_le (getD_lt (Nat.two_pow_pos _) (digits_lt w n _) _) (Nat.pow_le_pow_right (by decide) hw)
          have h2 : 1 <<< (p % w) < 2 ^ 64 := by
            rw [Nat.shiftLeft_eq, Nat.one_mul]
            exact Nat.pow_lt_pow_right (by decide) h64
          rw [show (1 : Int) = ((1 : Nat) : Int) from rfl, shl64 (Nat.le_of_lt h64), Nat.mod_eq_of_lt h2, or64 h1 h2]
        refine Ev.step (f := fun k => columbariumref3_Unpack.l0 k (ints B) (n : Int) (w : Int) (ints (digits w n (val 8 B % 2 ^ (p + 1)))) ((p + 1 : Nat) : Int)) (fun k => ?_) (hnext hlt)
        rw [columbariumref3_Unpack.l0]
        simp only [e8, div8 b2, umod8 p, if_pos c1, if_pos c2, if_pos c3, if_pos c4, hask]
        rw [if_neg (by decide), e9, if_neg c5, if_neg c6]
        simp only [divw b2, umod_nat p w hw2 hw0, if_pos c7, if_pos c8, if_pos c9, rd_ints, hor]
        rw [Int.toNat_natCast, ints_set, hset, succ64 b1]
theorem unpack3_ev {B : List Nat} (hB : ∀ x ∈ B, x < 256) (hl : B.length ≤ 140737488351232) (n w : Int) : Ev (fun k => columbariumref3_Unpack.f k (ints B) n w) (ints (unp B n w).1, (unp B n w).2) := by
  unfold unp
  have end1 : ∀ n : Int, Ev (fun k => columbariumref3_Unpack.j0 k (ints B) n w true) ([], 15) := fun n => Ev.step (f := fun _ => some ([], 15)) (fun k => by rw [columbariumref3_Unpack.j0, if_pos rfl]) (Ev.now _)
  have end2 : ∀ n : Int, Ev (fun k => columbariumref3_Unpack.j1 k (ints B) n w true) ([], 1) := fun n => Ev.step (f := fun _ => some ([], 1)) (fun k => by rw [columbariumref3_Unpack.j1, if_pos rfl]) (Ev.now _)
  by_cases h1 : w < 0
  · rw [if_pos (.inl h1)]
    exact Ev.congr (fun k => by rw [columbariumref3_Unpack.f, if_pos h1]) (end1 n)
  by_cases h2 : w > 64
  · rw [if_pos (.inr h2)]
    exact Ev.congr (fun k => by rw [columbariumref3_Unpack.f, if_neg h1, decide_eq_true h2]) (end1 n)
  rw [if_neg (by omega)]
  refine Ev.congr (f := fun k => columbariumref3_Unpack.j0 k (ints B) n w false) (fun k => by rw [columbariumref3_Unpack.f, if_neg h1, decide_eq_false h2]) ?_
  by_cases h3 : n < 0
  · rw [if_pos (.inl h3)]
    exact Ev.step (fun k => by rw [columbariumref3_Unpack.j0, if_neg (by decide), if_pos h3]) (end2 n)
  by_cases h4 : n > 16777216
  · rw [if_pos (.inr h4)]
    exact Ev.step (fun k => by rw [columbariumref3_Unpack.j0, if_neg (by decide), if_neg h3, decide_eq_true h4]) (end2 n)
  rw [if_neg (by omega)]
  refine Ev.step (f := fun k => columbariumref3_Unpack.j1 k (ints B) n w false) (fun k => by rw [columbariumref3_Unpack.j0, if_neg (by decide), if_neg h3, decide_eq_false h4]) ?_
  by_cases h5 : (B.length : Int) < sizeOf_ n w
  · rw [if_pos h5]
    exact Ev.step (f := fun _ => some ([], 10)) (fun k => by rw [columbariumref3_Unpack.j1, if_neg (by decide), size3_eq, Option.bind_some, ints_length, if_pos h5]) (Ev.now _)
  rw [if_neg h5]
  by_cases h6 : (B.length : Int) > sizeOf_ n w
  · rw [if_pos h6]
    exact Ev.step (f := fun _ => some ([], 11)) (fun k => by rw [columbariumref3_Unpack.j1, if_neg (by decide), size3_eq, Option.bind_some, ints_length, if_neg h5, Option.bind_some, if_pos h6]) (Ev.now _)
  rw [if_neg h6]
  obtain ⟨a, rfl⟩ := Int.eq_ofNat_of_zero_le (show 0 ≤ n by omega)
  obtain ⟨b, rfl⟩ := Int.eq_ofNat_of_zero_le (show 0 ≤ w by omega)
  have hk := unpack3_l0 hB hl a b (by omega) (by omega) (8 * B.length) 0 rfl (by omega) (by rw [Nat.pow_zero, Nat.mod_one]; exact Nat.two_pow_pos _)
  have c1 : (0 : Int) ≤ ((a : Nat) : Int) := by omega
  have c2 : a ≤ 35184372088832 := by omega
  refine Ev.step (f := fun k => columbariumref3_Unpack.l0 k (ints B) (a : Int) (b : Int) (ints (digits b a (val 8 B % 2 ^ 0))) ((0 : Nat) : Int)) (fun k => ?_) ?_
  · rw [columbariumref3_Unpack.j1, if_neg (by decide), size3_eq, Option.bind_some, ints_length, if_neg h5, Option.bind_some, if_neg h6, if_pos c1, Int.toNat_natCast, if_pos c2, show (0 : Int) = ((0 : Nat) : Int) from rfl, ints_replicate, Nat.pow_zero, Nat.mod_one, digits_zero]
  · simp only [Int.toNat_natCast]
    by_cases h7 : 2 ^ (a * b) ≤ val 8 B
    · rw [if_neg (by omega)] at hk
      rw [if_pos h7]
      exact hk
    · rw [if_pos (by omega)] at hk
      rw [if_neg h7]
      exact hk

end Go.Proofs.Ytpnnfkefddkjcaa.QRunsShapes
