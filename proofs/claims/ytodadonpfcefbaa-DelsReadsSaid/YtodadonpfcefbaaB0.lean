/- Plain facts on whole numbers, bits and rounds, for the pure statements of this seat. -/
import Derived.Test.YtodadonpfcefbaaWMore
import Derived.Laws.BitsLemmas
import Derived.Lib.Bytes
namespace Go.Proofs.Ytodadonpfcefbaa.Base
open Go.RowKit Go.Proofs.YtodadonpfcefbaaW.PrintWords Go.Proofs.YtodadonpfcefbaaW.PrintLast Go.Proofs.YtodadonpfcefbaaW.PrintMore
set_option linter.unusedVariables false
set_option linter.unusedSimpArgs false

/-! ### whole numbers -/
theorem w64 {x : Int} (h : -9223372036854775808 ≤ x) (h' : x < 9223372036854775808) : wrap64 x = x := by
  unfold wrap64; omega
theorem u64_wrap (n : Int) : IntKind.u64.wrap n = n % 18446744073709551616 := by simp [IntKind.wrap, IntKind.bits, IntKind.signed]
theorem wu64 {x : Int} (h : 0 ≤ x) (h' : x < 18446744073709551616) : IntKind.u64.wrap x = x := by rw [u64_wrap]; omega
theorem tdiv_nat (a b : Nat) : Int.tdiv (a : Int) (b : Int) = ((a / b : Nat) : Int) := by simp [Int.tdiv]
theorem tmod_nat (a b : Nat) : Int.tmod (a : Int) (b : Int) = ((a % b : Nat) : Int) := by simp [Int.tmod]

/-! ### bits -/
theorem wraps_u64 (n : Int) (h0 : 0 ≤ n) (h1 : n < 2 ^ 64) : IntKind.u64.wrap n = n := wu64 h0 (by simpa using h1)
theorem and64 {a b : Nat} (ha : a < 2 ^ 64) (hb : b < 2 ^ 64) : Go.bits .and .u64 (a : Int) (b : Int) = ((a &&& b : Nat) : Int) := (bits_nat .u64 64 (by decide) wraps_u64 a b ha hb).1
theorem or64 {a b : Nat} (ha : a < 2 ^ 64) (hb : b < 2 ^ 64) : Go.bits .or .u64 (a : Int) (b : Int) = ((a ||| b : Nat) : Int) := (bits_nat .u64 64 (by decide) wraps_u64 a b ha hb).2
theorem and8 {a b : Nat} (ha : a < 2 ^ 8) (hb : b < 2 ^ 8) : Go.bits .and .u8 (a : Int) (b : Int) = ((a &&& b : Nat) : Int) := (bits_nat .u8 8 (by decide) wraps_u8 a b ha hb).1
theorem or8 {a b : Nat} (ha : a < 2 ^ 8) (hb : b < 2 ^ 8) : Go.bits .or .u8 (a : Int) (b : Int) = ((a ||| b : Nat) : Int) := (bits_nat .u8 8 (by decide) wraps_u8 a b ha hb).2
theorem shr_nat {k : IntKind} {a i : Nat} (h : i ≤ k.bits) : shr k (a : Int) (i : Int) = ((a >>> i : Nat) : Int) := by
  unfold shr
  rw [Int.toNat_natCast, Nat.min_eq_left h, Nat.shiftRight_eq_div_pow]
  simp
theorem shl64 {a i : Nat} (h : i ≤ 64) : shl .u64 (a : Int) (i : Int) = ((a <<< i % 2 ^ 64 : Nat) : Int) := by
  unfold shl
  rw [Int.toNat_natCast, Nat.min_eq_left (show i ≤ IntKind.u64.bits from h), u64_wrap, Nat.shiftLeft_eq]
  simp
theorem shl8 {a i : Nat} (h : i ≤ 8) : shl .u8 (a : Int) (i : Int) = ((a <<< i % 2 ^ 8 : Nat) : Int) := by
  unfold shl
  rw [Int.toNat_natCast, Nat.min_eq_left (show i ≤ IntKind.u8.bits from h), IntKind.wrap_u8, Nat.shiftLeft_eq]
  simp
theorem bit_or_one (a i : Nat) : (a >>> i) &&& 1 = (a.testBit i).toNat := by
  rw [Nat.and_one_is_mod, Nat.testBit_eq_decide_div_mod_eq, Nat.shiftRight_eq_div_pow]
  rcases Nat.mod_two_eq_zero_or_one (a / 2 ^ i) with h | h <;> simp [h]
theorem succ64 {j : Nat} (h : j < 9223372036854775807) : wrap64 ((j : Int) + 1) = ((j + 1 : Nat) : Int) := by
  rw [w64 (by omega) (by omega)]
  rfl
theorem mul64 {i w : Nat} (h : i * w < 9223372036854775808) : wrap64 ((i : Int) * (w : Int)) = ((i * w : Nat) : Int) := by
  rw [show (i : Int) * (w : Int) = ((i * w : Nat) : Int) by simp, w64 (by omega) (by omega)]
theorem lin64 {i w j : Nat} (h : i * w + j < 9223372036854775808) : wrap64 (wrap64 ((i : Int) * (w : Int)) + (j : Int)) = ((i * w + j : Nat) : Int) := by
  rw [mul64 (by omega), w64 (by omega) (by omega)]
  omega
theorem div8 {p : Nat} (h : p < 9223372036854775808) : wrap64 (Int.tdiv (p : Int) 8) = ((p / 8 : Nat) : Int) := by
  rw [show (8 : Int) = ((8 : Nat) : Int) from rfl, tdiv_nat, w64 (by omega) (by omega)]
theorem mod8 (p : Nat) : Int.tmod (p : Int) 8 = ((p % 8 : Nat) : Int) := by
  rw [show (8 : Int) = ((8 : Nat) : Int) from rfl, tmod_nat]
theorem umod8 (p : Nat) : IntKind.u64.wrap (Int.tmod (p : Int) 8) = ((p % 8 : Nat) : Int) := by
  rw [mod8, wu64 (by omega) (by omega)]
theorem mod_two_pow_succ (x n : Nat) : x % 2 ^ (n + 1) = x % 2 ^ n + 2 ^ n * (x.testBit n).toNat := by
  rw [Nat.pow_succ, Nat.mod_mul]
  congr 2
  rw [Nat.testBit_eq_decide_div_mod_eq]
  rcases Nat.mod_two_eq_zero_or_one (x / 2 ^ n) with h | h <;> simp [h]
theorem bytes_for {n w : Nat} (h : n * w + 7 < 9223372036854775808) : wrap64 (Int.tdiv (wrap64 (wrap64 ((n : Int) * (w : Int)) + 7)) 8) = (((n * w + 7) / 8 : Nat) : Int) := by
  have e : (n : Int) * (w : Int) = ((n * w : Nat) : Int) := by simp
  rw [e, w64 (x := ((n * w : Nat) : Int)) (by omega) (by omega), show ((n * w : Nat) : Int) + 7 = ((n * w + 7 : Nat) : Int) by omega, w64 (x := ((n * w + 7 : Nat) : Int)) (by omega) (by omega), show (8 : Int) = ((8 : Nat) : Int) from rfl, tdiv_nat, w64 (by omega) (by omega)]

/-! ### lists of whole numbers as lists of natural ones -/
def ints (L : List Nat) : List Int := L.map fun x : Nat => (x : Int)
theorem ints_length (L : List Nat) : (ints L).length = L.length := by simp [ints]
theorem rd_ints (L : List Nat) (i : Nat) : rd (ints L) (i : Int) = ((L.getD i 0 : Nat) : Int) := by
  simp only [rd, ints, Int.toNat_natCast, List.getD_eq_getElem?_getD, List.getElem?_map]
  cases L[i]? <;> simp
theorem ints_set (L : List Nat) (i v : Nat) : (ints L).set i (v : Int) = ints (L.set i v) := by simp [ints, List.map_set]
theorem ints_append (L M : List Nat) : ints L ++ ints M = ints (L ++ M) := by simp [ints]
theorem ints_take (L : List Nat) (n : Nat) : (ints L).take n = ints (L.take n) := by simp [ints, List.map_take]
theorem ints_drop (L : List Nat) (n : Nat) : (ints L).drop n = ints (L.drop n) := by simp [ints, List.map_drop]
theorem ints_replicate (n v : Nat) : List.replicate n (v : Int) = ints (List.replicate n v) := by simp [ints]
theorem ints_of {B : Nat} {l : List Int} (h : ∀ x ∈ l, 0 ≤ x ∧ x < (B : Int)) : ∃ L : List Nat, l = ints L ∧ ∀ x ∈ L, x < B := by
  refine ⟨l.map Int.toNat, ?_, fun x hx => ?_⟩
  · simp only [ints, List.map_map]
    conv => lhs; rw [← List.map_id l]
    refine List.map_congr_left fun x hx => ?_
    have := h x hx
    simp; omega
  · obtain ⟨y, hy, rfl⟩ := List.mem_map.1 hx
    have := h y hy
    omega
theorem wf_u8 {x : Int} (h : (Lit.int .u8 x).wf = true) : 0 ≤ x ∧ x < ((256 : Nat) : Int) := by
  simp [Lit.wf, IntKind.min, IntKind.max, IntKind.bits, IntKind.signed] at h
  omega
theorem getD_lt {B : Nat} {L : List Nat} (hB : 0 < B) (h : ∀ x ∈ L, x < B) (i : Nat) : L.getD i 0 < B := by
  rw [List.getD_eq_getElem?_getD]
  cases hi : L[i]? with
  | none => simpa using hB
  | some y => exact h _ (List.mem_of_getElem? hi)

/-! ### bytes as texts -/
theorem str_ints (A : List Nat) : (strOfNums (ints A)).toList = A.map fun n => UInt8.ofNat n := by
  rw [Go.Lib.strOfNums_toList]
  simp [Go.Lib.bytesOf, ints, List.map_map, Function.comp_def]
theorem str_inj {A B : List Nat} (hA : ∀ x ∈ A, x < 256) (hB : ∀ x ∈ B, x < 256) : (strOfNums (ints A)).toList = (strOfNums (ints B)).toList ↔ A = B := by
  constructor
  · rw [str_ints, str_ints]
    intro h
    induction A generalizing B with
    | nil => cases B with
      | nil => rfl
      | cons b B => simp at h
    | cons a A ih => cases B with
      | nil => simp at h
      | cons b B =>
        simp only [List.map_cons, List.cons.injEq] at h
        have ha := hA a List.mem_cons_self
        have hb := hB b List.mem_cons_self
        have e : a = b := by
          have h1 := congrArg UInt8.toNat h.1
          simp only [UInt8.toNat_ofNat'] at h1
          omega
        rw [e, ih (fun x hx => hA x (List.mem_cons_of_mem _ hx)) (fun x hx => hB x (List.mem_cons_of_mem _ hx)) h.2]
  · intro h
    rw [h]

end Go.Proofs.Ytodadonpfcefbaa.Base
