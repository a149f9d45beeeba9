/- Package bits, as printed for DelsReads: what Width and Pack come to. -/
import Derived.Test.YtodadonpfcefbaaQDelsReadsx3
import Derived.Test.YtodadonpfcefbaaQDelsReadsx7
import Derived.Test.YtodadonpfcefbaaQDelsReadsx8
import Derived.Test.YtodadonpfcefbaaQDelsReadsx10
import Derived.Test.YtodadonpfcefbaaB1
namespace Go.Proofs.Ytodadonpfcefbaa.QDelsReads
open Go.RowKit Go.Proofs.YtodadonpfcefbaaW.PrintWords Go.Proofs.YtodadonpfcefbaaW.PrintLast Go.Proofs.YtodadonpfcefbaaW.PrintMore Go.Proofs.Ytodadonpfcefbaa.Base
set_option linter.unusedVariables false
set_option linter.unusedSimpArgs false

/-- How many bits a number needs. -/
def bw (n : Nat) : Nat := if n = 0 then 0 else Nat.log2 n + 1
theorem bw_half (n : Nat) (h : n ≠ 0) : bw n = bw (n / 2) + 1 := by
  unfold bw
  rw [if_neg h]
  by_cases h2 : n / 2 = 0
  · rw [if_pos h2]
    have : n = 1 := by omega
    subst this
    decide
  · rw [if_neg h2, Nat.log2_def n, if_pos (by omega)]
theorem bw_le (n w : Nat) : bw n ≤ w ↔ n < 2 ^ w := by
  unfold bw
  by_cases h : n = 0
  · subst h
    simp [Nat.two_pow_pos]
  · rw [if_neg h, Nat.succ_le_iff, Nat.log2_lt h]
/-- The or of all. -/
def orAll (L : List Nat) : Nat := L.foldl (· ||| ·) 0
theorem foldl_or (L : List Nat) (a : Nat) : L.foldl (· ||| ·) a = a ||| orAll L := by
  induction L generalizing a with
  | nil => simp [orAll]
  | cons b L ih => simp only [orAll, List.foldl_cons]; rw [ih, ih (0 ||| b), Nat.zero_or, Nat.or_assoc]
theorem orAll_cons (a : Nat) (L : List Nat) : orAll (a :: L) = a ||| orAll L := by
  show (L.foldl (· ||| ·) (0 ||| a)) = _
  rw [foldl_or, Nat.zero_or]
theorem orAll_lt (L : List Nat) (w : Nat) : orAll L < 2 ^ w ↔ ∀ x ∈ L, x < 2 ^ w := by
  induction L with
  | nil => simp [orAll, Nat.two_pow_pos]
  | cons a L ih =>
    rw [orAll_cons]
    constructor
    · intro h x hx
      rcases List.mem_cons.1 hx with rfl | hx
      · exact Nat.lt_of_le_of_lt Nat.left_le_or h
      · exact ih.1 (Nat.lt_of_le_of_lt Nat.right_le_or h) x hx
    · intro h
      exact Nat.or_lt_two_pow (h a List.mem_cons_self) (ih.2 fun x hx => h x (List.mem_cons_of_mem _ hx))
/-- The width of numbers. -/
def wd (L : List Nat) : Nat := bw (orAll L)
theorem wd_le (L : List Nat) (w : Nat) : wd L ≤ w ↔ ∀ x ∈ L, x < 2 ^ w := by rw [wd, bw_le, orAll_lt]
theorem wd_64 {L : List Nat} (h : ∀ x ∈ L, x < 2 ^ 64) : wd L ≤ 64 := (wd_le L 64).2 h

theorem width_l1 (d : Nat) : ∀ n c : Nat, bw n = d → c + d ≤ 64 → Ev (fun k => bits_Width.l1 k (n : Int) (c : Int)) ((c + d : Nat) : Int) := by
  induction d with
  | zero =>
    intro n c hd hc
    have h0 : n = 0 := by
      have := (bw_le n 0).1 (by omega)
      simpa using this
    subst h0
    refine Ev.step (f := fun _ => some (c : Int)) (fun k => by rw [bits_Width.l1, if_neg (by omega)]) ?_
    exact Ev.now _
  | succ d ih =>
    intro n c hd hc
    have h0 : n ≠ 0 := by
      rintro rfl
      simp [bw] at hd
    have hh := bw_half n h0
    refine Ev.step (f := fun k => bits_Width.l1 k ((n / 2 : Nat) : Int) ((c + 1 : Nat) : Int)) (fun k => ?_) ?_
    · rw [bits_Width.l1, if_pos (by omega), w64 (by omega) (by omega)]
      rfl
    · have := ih (n / 2) (c + 1) (by omega) (by omega)
      rwa [show c + 1 + d = c + (d + 1) by omega] at this
theorem width_l0 (L : List Nat) (hL : ∀ x ∈ L, x < 2 ^ 64) (hlen : L.length < 9223372036854775807) (d : Nat) : ∀ a i : Nat, L.length - i = d → a < 2 ^ 64 → i ≤ L.length → bw (a ||| orAll (L.drop i)) ≤ 64 →
    Ev (fun k => bits_Width.l0 k (a : Int) (ints L) (L.length : Int) (i : Int)) (bw (a ||| orAll (L.drop i)) : Int) := by
  induction d with
  | zero =>
    intro a i hd ha hi hb
    have hi' : i = L.length := by omega
    rw [hi', List.drop_length] at hb ⊢
    have e : a ||| orAll [] = a := by simp [orAll]
    rw [e] at hb ⊢
    refine Ev.step (f := fun k => bits_Width.l1 k (a : Int) ((0 : Nat) : Int)) (fun k => by rw [bits_Width.l0, if_neg (by omega)]; rfl) ?_
    have := width_l1 (bw a) a 0 rfl (by omega)
    simpa using this
  | succ d ih =>
    intro a i hd ha hi hb
    have hi' : i < L.length := by omega
    have hx : L.getD i 0 < 2 ^ 64 := getD_lt (by decide) hL i
    have hdrop : L.drop i = L.getD i 0 :: L.drop (i + 1) := by
      rw [List.drop_eq_getElem_cons hi', List.getD_eq_getElem?_getD, List.getElem?_eq_getElem hi']
      rfl
    rw [hdrop, orAll_cons, ← Nat.or_assoc] at hb ⊢
    refine Ev.step (f := fun k => bits_Width.l0 k ((a ||| L.getD i 0 : Nat) : Int) (ints L) (L.length : Int) ((i + 1 : Nat) : Int)) (fun k => ?_) ?_
    · rw [bits_Width.l0, if_pos (by omega), if_pos (by omega), if_pos (by rw [ints_length]; omega), rd_ints, or64 ha hx, w64 (by omega) (by omega)]
      rfl
    · exact ih _ _ (by omega) (Nat.or_lt_two_pow ha hx) (by omega) hb
theorem width_ev {L : List Nat} (hL : ∀ x ∈ L, x < 2 ^ 64) (hlen : L.length < 9223372036854775807) : Ev (fun k => bits_Width.f k (ints L)) (wd L : Int) := by
  unfold bits_Width.f
  rw [ints_length]
  have := width_l0 L hL hlen L.length 0 0 (by omega) (by decide) (by omega) (by simpa [wd] using wd_64 hL)
  simpa [wd] using this

/-- The bytes of packed numbers. -/
def packed (L : List Nat) (w : Nat) : List Nat := digits 8 ((L.length * w + 7) / 8) (val w L)
theorem packed_length (L : List Nat) (w : Nat) : (packed L w).length = (L.length * w + 7) / 8 := digits_length _ _ _
theorem packed_lt (L : List Nat) (w : Nat) : ∀ x ∈ packed L w, x < 256 := digits_lt _ _ _
theorem or_byte {a b r : Nat} (ha : a < 256) (hr : r < 8) (hb : b ≤ 1) : Go.bits .or .u8 (a : Int) (shl .u8 (b : Int) (r : Int)) = ((a ||| b <<< r : Nat) : Int) := by
  have h2 : b <<< r < 2 ^ 8 := by
    rw [Nat.shiftLeft_eq]
    have : 2 ^ r ≤ 2 ^ 7 := Nat.pow_le_pow_right (by decide) (by omega)
    have h3 : b * 2 ^ r ≤ 1 * 2 ^ 7 := Nat.mul_le_mul hb this
    omega
  rw [shl8 (by omega), Nat.mod_eq_of_lt h2, or8 ha h2]
theorem pack_l (L : List Nat) (w : Nat) (hw : w ≤ 64) (hL : ∀ x ∈ L, x < 2 ^ w) (hlen : L.length * w + 7 < 9223372036854775808) (hlen2 : L.length < 9223372036854775807) (N : Nat) (hN : N = (L.length * w + 7) / 8) (d : Nat) : ∀ i, L.length - i = d → i ≤ L.length →
    Ev (fun k => bits_Pack.l0 k (w : Int) (ints (digits 8 N (val w L % 2 ^ (i * w)))) ((i * w : Nat) : Int) (ints L) (L.length : Int) (i : Int)) (ints (packed L w), 0) := by
  induction d with
  | zero =>
    intro i hd hi
    have hi' : i = L.length := by omega
    refine Ev.step (f := fun _ => some (ints (packed L w), 0)) (fun k => ?_) (Ev.now _)
    rw [bits_Pack.l0, if_neg (by omega), hi', packed, hN, Nat.mod_eq_of_lt]
    rw [Nat.mul_comm]
    exact val_lt L hL
  | succ d ih =>
    intro i hd hi
    have hi' : i < L.length := by omega
    have hx : L.getD i 0 < 2 ^ w := getD_lt (Nat.two_pow_pos w) hL i
    have hx64 : L.getD i 0 < 2 ^ 64 := Nat.lt_of_lt_of_le hx (Nat.pow_le_pow_right (by decide) hw)
    have hiw : (i + 1) * w ≤ L.length * w := Nat.mul_le_mul_right _ hi'
    have hsucc : (i + 1) * w = i * w + w := Nat.succ_mul _ _
    have inner : ∀ e j, w - j = e → j ≤ w → Ev (fun k => bits_Pack.l1 k (w : Int) (ints (digits 8 N (val w L % 2 ^ (i * w + j)))) ((i * w + j : Nat) : Int) ((L.getD i 0 : Nat) : Int) (ints L) (L.length : Int) (i : Int) (w : Int) (j : Int)) (ints (packed L w), 0) := by
      intro e
      induction e with
      | zero =>
        intro j he hj
        have hj' : j = w := by omega
        have h1 : i * w + w = (i + 1) * w := hsucc.symm
        refine Ev.step (f := fun k => bits_Pack.l0 k (w : Int) (ints (digits 8 N (val w L % 2 ^ ((i + 1) * w)))) (((i + 1) * w : Nat) : Int) (ints L) (L.length : Int) ((i + 1 : Nat) : Int)) (fun k => ?_) (ih (i + 1) (by omega) (by omega))
        rw [bits_Pack.l1, if_neg (by omega), hj', h1, w64 (by omega) (by omega)]
        rfl
      | succ e ihe =>
        intro j he hj
        have hj' : j < w := by omega
        have hat : i * w + j < L.length * w := by omega
        refine Ev.step (f := fun k => bits_Pack.l1 k (w : Int) (ints (digits 8 N (val w L % 2 ^ (i * w + (j + 1))))) ((i * w + (j + 1) : Nat) : Int) ((L.getD i 0 : Nat) : Int) (ints L) (L.length : Int) (i : Int) (w : Int) ((j + 1 : Nat) : Int)) (fun k => ?_) (ihe (j + 1) (by omega) (by omega))
        have hq : wrap64 (Int.tdiv ((i * w + j : Nat) : Int) 8) = (((i * w + j) / 8 : Nat) : Int) := by
          rw [show (8 : Int) = ((8 : Nat) : Int) from rfl, tdiv_nat, w64 (by omega) (by omega)]
        have hr : Int.tmod ((i * w + j : Nat) : Int) 8 = (((i * w + j) % 8 : Nat) : Int) := by
          rw [show (8 : Int) = ((8 : Nat) : Int) from rfl, tmod_nat]
        have hqlt : (i * w + j) / 8 < N := by omega
        have hbit : Go.bits .and .u64 (shr .u64 ((L.getD i 0 : Nat) : Int) (j : Int)) 1 % 256 = (((L.getD i 0).testBit j).toNat : Int) := by
          have hs : (L.getD i 0) >>> j < 2 ^ 64 := Nat.lt_of_le_of_lt (Nat.shiftRight_le _ _) hx64
          rw [shr_nat (show j ≤ IntKind.u64.bits from (show j ≤ 64 by omega)), show (1 : Int) = ((1 : Nat) : Int) from rfl, and64 hs (by decide), bit_or_one]
          have := Bool.toNat_le ((L.getD i 0).testBit j)
          omega
        have hval : (val w L).testBit (i * w + j) = (L.getD i 0).testBit j := val_testBit L hL i j hj'
        have hset := digits_set N (val w L % 2 ^ (i * w + j)) ((i * w + j) / 8) ((i * w + j) % 8) ((val w L).testBit (i * w + j)) (Nat.mod_lt _ (by decide)) hqlt (by rw [Nat.div_add_mod]; exact Nat.mod_lt _ (Nat.two_pow_pos _))
        rw [Nat.div_add_mod, ← mod_two_pow_succ, hval] at hset
        rw [bits_Pack.l1, if_pos (by omega), hq, if_pos (by omega), if_pos (by rw [ints_length, digits_length]; omega), if_pos (by omega), hr, if_pos (by omega), hbit, rd_ints, or_byte (getD_lt (by decide) (digits_lt 8 _ _) _) (Nat.mod_lt _ (by decide)) (Bool.toNat_le _), Int.toNat_natCast, ints_set, hset, w64 (by omega) (by omega), w64 (by omega) (by omega)]
        rfl
    refine Ev.step (f := fun k => bits_Pack.l1 k (w : Int) (ints (digits 8 N (val w L % 2 ^ (i * w + 0)))) ((i * w + 0 : Nat) : Int) ((L.getD i 0 : Nat) : Int) (ints L) (L.length : Int) (i : Int) (w : Int) ((0 : Nat) : Int)) (fun k => ?_) (inner w 0 (by omega) (by omega))
    rw [bits_Pack.l0, if_pos (by omega), if_pos (by omega), if_pos (by rw [ints_length]; omega), rd_ints]
    rfl
theorem pack_ev {L : List Nat} {w : Nat} (hw : w ≤ 64) (hL : ∀ x ∈ L, x < 2 ^ w) (hlen : L.length ≤ 35184372088832) : Ev (fun k => bits_Pack.f k (ints L) (w : Int)) (ints (packed L w), 0) := by
  have hL64 : ∀ x ∈ L, x < 2 ^ 64 := fun x hx => Nat.lt_of_lt_of_le (hL x hx) (Nat.pow_le_pow_right (by decide) hw)
  have hm : L.length * w ≤ 35184372088832 * 64 := Nat.mul_le_mul hlen hw
  refine Ev.congr (f := fun k => (bits_Width.f k (ints L)).bind fun t => bits_Pack.j0 k (ints L) (w : Int) (decide ((w : Int) < t))) (fun k => ?_) ?_
  · rw [bits_Pack.f, if_neg (by omega), if_neg (by omega)]
  refine Ev.bind (width_ev hL64 (by omega)) ?_
  have hd : decide ((w : Int) < ((wd L : Nat) : Int)) = false := by
    have := (wd_le L w).2 hL
    exact decide_eq_false (by omega)
  have hsz : wrap64 (Int.tdiv (wrap64 (wrap64 (((ints L).length : Int) * (w : Int)) + 7)) 8) = (((L.length * w + 7) / 8 : Nat) : Int) := by
    rw [ints_length]
    exact bytes_for (by omega)
  refine Ev.step (f := fun k => bits_Pack.l0 k (w : Int) (ints (digits 8 ((L.length * w + 7) / 8) (val w L % 2 ^ (0 * w)))) ((0 * w : Nat) : Int) (ints L) (L.length : Int) ((0 : Nat) : Int)) (fun k => ?_) (pack_l L w hw hL (by omega) (by omega) _ rfl L.length 0 (by omega) (by omega))
  rw [hd, bits_Pack.j0, if_neg (by decide), hsz, if_pos (by omega), Int.toNat_natCast, if_pos (by omega), show (0 : Int) = ((0 : Nat) : Int) from rfl, ints_replicate, ints_length]
  simp [Nat.mod_one, digits_zero]
theorem val_testBit_any {w : Nat} (hw : 0 < w) (L : List Nat) (h : ∀ x ∈ L, x < 2 ^ w) (p : Nat) : (val w L).testBit p = (L.getD (p / w) 0).testBit (p % w) := by
  have := val_testBit L h (p / w) (p % w) (Nat.mod_lt _ hw)
  rwa [Nat.mul_comm, Nat.div_add_mod] at this
/-- How the programs ask a bit of a byte. -/
theorem ask_bit {A : List Nat} (hA : ∀ x ∈ A, x < 256) (p : Nat) : Go.bits .and .u8 (shr .u8 (rd (ints A) ((p / 8 : Nat) : Int)) ((p % 8 : Nat) : Int)) 1 = (((A.getD (p / 8) 0).testBit (p % 8)).toNat : Int) := by
  have h1 : A.getD (p / 8) 0 < 2 ^ 8 := getD_lt (by decide) hA _
  have h2 : p % 8 < 8 := Nat.mod_lt _ (by decide)
  rw [rd_ints, shr_nat (show p % 8 ≤ IntKind.u8.bits from (show p % 8 ≤ 8 by omega)), show (1 : Int) = ((1 : Nat) : Int) from rfl, and8 (Nat.lt_of_le_of_lt (Nat.shiftRight_le _ _) h1) (by decide), bit_or_one]
theorem ask_bit64 {x : Nat} (hx : x < 2 ^ 64) {j : Nat} (hj : j < 64) : Go.bits .and .u64 (shr .u64 (x : Int) (j : Int)) 1 = ((x.testBit j).toNat : Int) := by
  rw [shr_nat (show j ≤ IntKind.u64.bits from (show j ≤ 64 by omega)), show (1 : Int) = ((1 : Nat) : Int) from rfl, and64 (Nat.lt_of_le_of_lt (Nat.shiftRight_le _ _) hx) (by decide), bit_or_one]

end Go.Proofs.Ytodadonpfcefbaa.QDelsReads
