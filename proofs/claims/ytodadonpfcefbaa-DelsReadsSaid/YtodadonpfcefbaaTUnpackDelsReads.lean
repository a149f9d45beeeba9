/- bits.Unpack and bits.Size: what they come to. -/
import Derived.Test.YtodadonpfcefbaaTBitsDelsReads
namespace Go.Proofs.Ytodadonpfcefbaa.QDelsReads
open Go.RowKit Go.Proofs.YtodadonpfcefbaaW.PrintWords Go.Proofs.YtodadonpfcefbaaW.PrintLast Go.Proofs.YtodadonpfcefbaaW.PrintMore Go.Proofs.Ytodadonpfcefbaa.Base
set_option linter.unusedVariables false
set_option linter.unusedSimpArgs false

/-- How many bytes numbers take. -/
def sizeOf_ (n w : Int) : Int := if n < 0 ∨ 16777216 < n ∨ w < 0 ∨ 64 < w then 0 else (n * w + 7) / 8
theorem size_nat {n w : Nat} (hn : n ≤ 16777216) (hw : w ≤ 64) : sizeOf_ (n : Int) (w : Int) = (((n * w + 7) / 8 : Nat) : Int) := by
  unfold sizeOf_
  rw [if_neg (by omega)]
  simp
theorem size_eq (n w : Int) : bits_Size.f n w = some (sizeOf_ n w) := by
  unfold bits_Size.f
  by_cases h1 : n < 0
  · rw [if_pos h1, sizeOf_, if_pos (.inl h1)]
  by_cases h2 : n > 16777216
  · rw [if_neg h1, if_pos h2, sizeOf_, if_pos (.inr (.inl h2))]
  by_cases h3 : w < 0
  · rw [if_neg h1, if_neg h2, if_pos h3, sizeOf_, if_pos (.inr (.inr (.inl h3)))]
  by_cases h4 : w > 64
  · rw [if_neg h1, if_neg h2, if_neg h3, if_pos h4, sizeOf_, if_pos (.inr (.inr (.inr h4)))]
  rw [if_neg h1, if_neg h2, if_neg h3, if_neg h4]
  obtain ⟨a, rfl⟩ := Int.eq_ofNat_of_zero_le (show 0 ≤ n by omega)
  obtain ⟨b, rfl⟩ := Int.eq_ofNat_of_zero_le (show 0 ≤ w by omega)
  have hm : a * b ≤ 16777216 * 64 := Nat.mul_le_mul (by omega) (by omega)
  rw [bytes_for (by omega), size_nat (by omega) (by omega)]

/-- What Unpack comes to. -/
def unp (B : List Nat) (n w : Int) : List Nat × Int :=
  if w < 0 ∨ 64 < w then ([], 15) else if n < 0 ∨ 16777216 < n then ([], 1) else if (B.length : Int) < sizeOf_ n w then ([], 10) else if (B.length : Int) > sizeOf_ n w then ([], 11) else if 2 ^ (n.toNat * w.toNat) ≤ val 8 B then ([], 12) else (digits w.toNat n.toNat (val 8 B), 0)
theorem bit_eq {B : List Nat} (hB : ∀ x ∈ B, x < 256) {p : Nat} (hp : p / 8 < B.length) (hl : B.length < 922337203685477500) : bits_Unpack_1.f (ints B) (p : Int) = some (((val 8 B).testBit p).toNat : Int) := by
  have hp63 : p < 9223372036854775808 := by omega
  have hb := val_testBit_any (w := 8) (by decide) B (by simpa using hB) p
  unfold bits_Unpack_1.f
  rw [div8 hp63, mod8, if_pos (by omega), if_pos (by rw [ints_length]; omega), if_pos (by omega)]
  have h1 : B.getD (p / 8) 0 < 2 ^ 8 := getD_lt (by decide) hB _
  have h2 : B.getD (p / 8) 0 >>> (p % 8) < 2 ^ 8 := Nat.lt_of_le_of_lt (Nat.shiftRight_le _ _) h1
  have h3 : IntKind.u64.wrap ((B.getD (p / 8) 0 >>> (p % 8) : Nat) : Int) = ((B.getD (p / 8) 0 >>> (p % 8) : Nat) : Int) := by
    generalize B.getD (p / 8) 0 >>> (p % 8) = y at h2 ⊢
    exact wu64 (by omega) (by omega)
  rw [rd_ints, shr_nat (show p % 8 ≤ IntKind.u8.bits from (show p % 8 ≤ 8 by omega)), h3, show (1 : Int) = ((1 : Nat) : Int) from rfl, and64 (Nat.lt_trans h2 (by decide)) (by decide), bit_or_one, hb]
theorem div_pow_zero (v p : Nat) : v / 2 ^ p = 0 ↔ v < 2 ^ p := by
  rw [Nat.div_eq_zero_iff]
  have := Nat.two_pow_pos p
  omega
theorem div_pow_succ (v p : Nat) : v / 2 ^ p = 2 * (v / 2 ^ (p + 1)) + (v.testBit p).toNat := by
  have h2 : v / 2 ^ p / 2 = v / 2 ^ (p + 1) := by rw [Nat.div_div_eq_div_mul, ← Nat.pow_succ]
  rw [← h2, Nat.testBit_eq_decide_div_mod_eq]
  generalize v / 2 ^ p = X
  rcases Nat.mod_two_eq_zero_or_one X with h | h
  · rw [decide_eq_false (by omega)]
    simp only [Bool.toNat_false]
    omega
  · rw [decide_eq_true h]
    simp only [Bool.toNat_true]
    omega
theorem unpack_fill {B : List Nat} (hB : ∀ x ∈ B, x < 256) (hl : B.length ≤ 140737488351232) (n w : Nat) (hw : w ≤ 64) (hn : n ≤ 16777216) (hsz : n * w ≤ 8 * B.length) (hv : val 8 B < 2 ^ (n * w)) (d : Nat) : ∀ i, n - i = d → i ≤ n →
    Ev (fun k => bits_Unpack.l1 k (ints B) (w : Int) (ints (digits w n (val 8 B % 2 ^ (i * w)))) (n : Int) (i : Int)) (ints (digits w n (val 8 B)), 0) := by
  induction d with
  | zero =>
    intro i hd hi
    have hi' : i = n := by omega
    refine Ev.step (f := fun _ => some (ints (digits w n (val 8 B)), 0)) (fun k => ?_) (Ev.now _)
    rw [bits_Unpack.l1, if_neg (by omega), hi', Nat.mod_eq_of_lt hv]
  | succ d ih =>
    intro i hd hi
    have hi' : i < n := by omega
    have hiw : (i + 1) * w ≤ n * w := Nat.mul_le_mul_right _ hi'
    have hsucc : (i + 1) * w = i * w + w := Nat.succ_mul _ _
    have inner : ∀ e j, w - j = e → j ≤ w → Ev (fun k => bits_Unpack.l2 k (ints B) (w : Int) (ints (digits w n (val 8 B % 2 ^ (i * w + j)))) (n : Int) (i : Int) (j : Int)) (ints (digits w n (val 8 B)), 0) := by
      intro e
      induction e with
      | zero =>
        intro j he hj
        have hj' : j = w := by omega
        have h1 : i * w + w = (i + 1) * w := hsucc.symm
        refine Ev.step (f := fun k => bits_Unpack.l1 k (ints B) (w : Int) (ints (digits w n (val 8 B % 2 ^ ((i + 1) * w)))) (n : Int) ((i + 1 : Nat) : Int)) (fun k => ?_) (ih (i + 1) (by omega) (by omega))
        rw [bits_Unpack.l2, if_neg (by omega), hj', h1, w64 (by omega) (by omega)]
        rfl
      | succ e ihe =>
        intro j he hj
        have hj' : j < w := by omega
        have hat : i * w + j < n * w := by omega
        have b1 : i * w + j < 9223372036854775808 := by omega
        have b2 : j < 9223372036854775807 := by omega
        have b3 : (i * w + j) / 8 < B.length := by omega
        have b4 : B.length < 922337203685477500 := by omega
        have t1 : ((j : Nat) : Int) < (w : Int) := by omega
        have t2 : (0 : Int) ≤ ((i : Nat) : Int) := by omega
        have t3 : ((i : Nat) : Int) < ((ints (digits w n (val 8 B % 2 ^ (i * w + j)))).length : Int) := by rw [ints_length, digits_length]; omega
        have t4 : (0 : Int) ≤ ((j : Nat) : Int) := by omega
        have b5 : j < 64 := by omega
        have hi1 := ihe (j + 1) (by omega) (by omega)
        have hbq := bit_eq hB b3 b4
        have hq := lin64 b1
        have t5 := succ64 b2
        have hset := digits_set n (val 8 B % 2 ^ (i * w + j)) i j ((val 8 B).testBit (i * w + j)) hj' hi' (by rw [Nat.mul_comm]; exact Nat.mod_lt _ (Nat.two_pow_pos _))
        rw [Nat.mul_comm w i, ← mod_two_pow_succ] at hset
        have hor : Go.bits .or .u64 (((digits w n (val 8 B % 2 ^ (i * w + j))).getD i 0 : Nat) : Int) (shl .u64 (((val 8 B).testBit (i * w + j)).toNat : Int) (j : Int)) = (((digits w n (val 8 B % 2 ^ (i * w + j))).getD i 0 ||| ((val 8 B).testBit (i * w + j)).toNat <<< j : Nat) : Int) := by
          have h1 : (digits w n (val 8 B % 2 ^ (i * w + j))).getD i 0 < 2 ^ 64 := Nat.lt_of_lt_of_le (getD_lt (Nat.two_pow_pos _) (digits_lt w n _) i) (Nat.pow_le_pow_right (by decide) hw)
          have h2 : ((val 8 B).testBit (i * w + j)).toNat <<< j < 2 ^ 64 := by
            rw [Nat.shiftLeft_eq]
            have h3 : 2 ^ j ≤ 2 ^ 63 := Nat.pow_le_pow_right (by decide) (Nat.le_of_lt_succ b5)
            have h4 : ((val 8 B).testBit (i * w + j)).toNat * 2 ^ j ≤ 1 * 2 ^ 63 := Nat.mul_le_mul (Bool.toNat_le _) h3
            exact Nat.lt_of_le_of_lt h4 (by decide)
          rw [shl64 (Nat.le_of_lt b5), Nat.mod_eq_of_lt h2, or64 h1 h2]
        refine Ev.step (f := fun k => bits_Unpack.l2 k (ints B) (w : Int) (ints (digits w n (val 8 B % 2 ^ (i * w + (j + 1))))) (n : Int) (i : Int) ((j + 1 : Nat) : Int)) (fun k => ?_) hi1
        rw [bits_Unpack.l2, if_pos t1, if_pos t2, if_pos t3, if_pos t4, hq, hbq, Option.bind_some, rd_ints, hor, Int.toNat_natCast, ints_set, hset, t5]
        rfl
    refine Ev.step (f := fun k => bits_Unpack.l2 k (ints B) (w : Int) (ints (digits w n (val 8 B % 2 ^ (i * w + 0)))) (n : Int) (i : Int) ((0 : Nat) : Int)) (fun k => ?_) (inner w 0 (by omega) (by omega))
    rw [bits_Unpack.l1, if_pos (by omega)]
    rfl
theorem unpack_rest {B : List Nat} (hB : ∀ x ∈ B, x < 256) (hl : B.length ≤ 140737488351232) (n w : Nat) (hw : w ≤ 64) (hn : n ≤ 16777216) (hsz : n * w ≤ 8 * B.length) (d : Nat) : ∀ p, 8 * B.length - p = d → n * w ≤ p → p ≤ 8 * B.length → (val 8 B / 2 ^ p = 0 → val 8 B < 2 ^ (n * w)) →
    Ev (fun k => bits_Unpack.l0 k (ints B) (n : Int) (w : Int) (p : Int)) (if val 8 B / 2 ^ p = 0 then (ints (digits w n (val 8 B)), 0) else ([], 12)) := by
  have hvl : val 8 B < 2 ^ (8 * B.length) := val_lt B (by simpa using hB)
  have e8 : wrap64 (8 * ((ints B).length : Int)) = ((8 * B.length : Nat) : Int) := by rw [ints_length, w64 (by omega) (by omega)]; omega
  induction d with
  | zero =>
    intro p hd hp hp2 hz
    have hp' : p = 8 * B.length := by omega
    have h0 : val 8 B / 2 ^ p = 0 := by rw [hp', div_pow_zero]; exact hvl
    rw [if_pos h0]
    refine Ev.step (f := fun k => bits_Unpack.l1 k (ints B) (w : Int) (ints (digits w n (val 8 B % 2 ^ (0 * w)))) (n : Int) ((0 : Nat) : Int)) (fun k => ?_) (unpack_fill hB hl n w hw hn hsz (hz h0) n 0 (by omega) (by omega))
    rw [bits_Unpack.l0, e8, if_neg (by omega), if_pos (by omega), Int.toNat_natCast, if_pos (by omega), show (0 : Int) = ((0 : Nat) : Int) from rfl, ints_replicate, ints_length, List.length_replicate]
    simp [Nat.mod_one, digits_zero]
  | succ d ih =>
    intro p hd hp hp2 hz
    have hs := div_pow_succ (val 8 B) p
    cases hb : (val 8 B).testBit p with
    | true =>
      rw [hb] at hs
      rw [if_neg (by simp at hs; omega)]
      refine Ev.step (f := fun _ => some ([], 12)) (fun k => ?_) (Ev.now _)
      rw [bits_Unpack.l0, e8, if_pos (by omega), bit_eq hB (by omega) (by omega), Option.bind_some, hb, if_pos (by decide)]
    | false =>
      rw [hb] at hs
      have e : (val 8 B / 2 ^ p = 0) = (val 8 B / 2 ^ (p + 1) = 0) := by
        apply propext
        simp at hs
        omega
      rw [e] at hz
      have hi : (if val 8 B / 2 ^ p = 0 then (ints (digits w n (val 8 B)), (0 : Int)) else ([], 12)) = (if val 8 B / 2 ^ (p + 1) = 0 then (ints (digits w n (val 8 B)), (0 : Int)) else ([], 12)) := by
        by_cases h0 : val 8 B / 2 ^ (p + 1) = 0
        · rw [if_pos h0, if_pos (by rw [e]; exact h0)]
        · rw [if_neg h0, if_neg (by rw [e]; exact h0)]
      rw [hi]
      refine Ev.step (f := fun k => bits_Unpack.l0 k (ints B) (n : Int) (w : Int) ((p + 1 : Nat) : Int)) (fun k => ?_) (ih (p + 1) (by omega) (by omega) (by omega) hz)
      rw [bits_Unpack.l0, e8, if_pos (by omega), bit_eq hB (by omega) (by omega), Option.bind_some, hb, if_neg (by decide), w64 (by omega) (by omega)]
      rfl
theorem unpack_ev {B : List Nat} (hB : ∀ x ∈ B, x < 256) (hl : B.length ≤ 140737488351232) (n w : Int) : Ev (fun k => bits_Unpack.f k (ints B) n w) (ints (unp B n w).1, (unp B n w).2) := by
  unfold unp
  by_cases h1 : w < 0
  · rw [if_pos (.inl h1)]
    exact Ev.congr (f := fun _ => some ([], 15)) (fun k => by rw [bits_Unpack.f, if_pos h1]) (Ev.now _)
  by_cases h2 : w > 64
  · rw [if_pos (.inr h2)]
    exact Ev.congr (f := fun _ => some ([], 15)) (fun k => by rw [bits_Unpack.f, if_neg h1, if_pos h2]) (Ev.now _)
  rw [if_neg (by omega)]
  by_cases h3 : n < 0
  · rw [if_pos (.inl h3)]
    exact Ev.congr (f := fun _ => some ([], 1)) (fun k => by rw [bits_Unpack.f, if_neg h1, if_neg h2, if_pos h3]) (Ev.now _)
  by_cases h4 : n > 16777216
  · rw [if_pos (.inr h4)]
    exact Ev.congr (f := fun _ => some ([], 1)) (fun k => by rw [bits_Unpack.f, if_neg h1, if_neg h2, if_neg h3, if_pos h4]) (Ev.now _)
  rw [if_neg (by omega)]
  by_cases h5 : (B.length : Int) < sizeOf_ n w
  · rw [if_pos h5]
    exact Ev.congr (f := fun _ => some ([], 10)) (fun k => by rw [bits_Unpack.f, if_neg h1, if_neg h2, if_neg h3, if_neg h4, size_eq, Option.bind_some, ints_length, if_pos h5]) (Ev.now _)
  rw [if_neg h5]
  by_cases h6 : (B.length : Int) > sizeOf_ n w
  · rw [if_pos h6]
    exact Ev.congr (f := fun _ => some ([], 11)) (fun k => by rw [bits_Unpack.f, if_neg h1, if_neg h2, if_neg h3, if_neg h4, size_eq, Option.bind_some, ints_length, if_neg h5, if_pos h6]) (Ev.now _)
  rw [if_neg h6]
  obtain ⟨a, rfl⟩ := Int.eq_ofNat_of_zero_le (show 0 ≤ n by omega)
  obtain ⟨b, rfl⟩ := Int.eq_ofNat_of_zero_le (show 0 ≤ w by omega)
  have hs := size_nat (n := a) (w := b) (by omega) (by omega)
  have hm : a * b ≤ 16777216 * 64 := Nat.mul_le_mul (by omega) (by omega)
  rw [hs] at h5 h6
  have hk := unpack_rest hB hl a b (by omega) (by omega) (by omega) (8 * B.length - a * b) (a * b) rfl (Nat.le_refl _) (by omega) (fun h => (div_pow_zero _ _).1 h)
  have e : (val 8 B / 2 ^ (a * b) = 0) = ¬ (2 ^ (a * b) ≤ val 8 B) := by
    apply propext
    rw [div_pow_zero]
    omega
  refine Ev.congr (f := fun k => bits_Unpack.l0 k (ints B) (a : Int) (b : Int) ((a * b : Nat) : Int)) (fun k => ?_) ?_
  · rw [bits_Unpack.f, if_neg h1, if_neg h2, if_neg h3, if_neg h4, size_eq, Option.bind_some, ints_length, hs, if_neg h5, if_neg h6, show (a : Int) * (b : Int) = ((a * b : Nat) : Int) by simp, w64 (by omega) (by omega)]
  · simp only [Int.toNat_natCast]
    by_cases h7 : 2 ^ (a * b) ≤ val 8 B
    · rw [if_neg (by rw [e]; exact fun h => h h7)] at hk
      rw [if_pos h7]
      exact hk
    · rw [if_pos (by rw [e]; exact h7)] at hk
      rw [if_neg h7]
      exact hk

end Go.Proofs.Ytodadonpfcefbaa.QDelsReads
