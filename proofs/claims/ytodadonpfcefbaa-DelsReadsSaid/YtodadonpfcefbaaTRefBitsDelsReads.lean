/- columbariumref3, as printed for DelsReads: Width, Size, Pack, Unpack come to what bits' do. -/
import Derived.Test.YtodadonpfcefbaaTUnpackDelsReads
namespace Go.Proofs.Ytodadonpfcefbaa.QDelsReads
open Go.RowKit Go.Proofs.YtodadonpfcefbaaW.PrintWords Go.Proofs.YtodadonpfcefbaaW.PrintLast Go.Proofs.YtodadonpfcefbaaW.PrintMore Go.Proofs.Ytodadonpfcefbaa.Base
set_option linter.unusedVariables false
set_option linter.unusedSimpArgs false

theorem size3_eq (n w : Int) : columbariumref3_Size.f n w = some (sizeOf_ n w) := by
  rw [← size_eq]
  rfl
/-- The greater of two widths. -/
theorem bw_shift (x w : Nat) : x >>> w = 0 ↔ bw x ≤ w := by
  rw [bw_le, Nat.shiftRight_eq_div_pow, Nat.div_eq_zero_iff]
  have := Nat.two_pow_pos w
  omega
theorem wd_take_succ (L : List Nat) (i : Nat) (h : i < L.length) : wd (L.take (i + 1)) = max (wd (L.take i)) (bw (L.getD i 0)) := by
  apply Nat.le_antisymm
  · rw [wd_le]
    intro x hx
    rw [List.take_succ_eq_append_getElem h] at hx
    rcases List.mem_append.1 hx with hx | hx
    · have := (wd_le (L.take i) (wd (L.take i))).1 (Nat.le_refl _) x hx
      exact Nat.lt_of_lt_of_le this (Nat.pow_le_pow_right (by decide) (Nat.le_max_left _ _))
    · rw [List.mem_singleton.1 hx]
      have e : L.getD i 0 = L[i] := by rw [List.getD_eq_getElem?_getD, List.getElem?_eq_getElem h]; rfl
      rw [e]
      exact Nat.lt_of_lt_of_le ((bw_le _ _).1 (Nat.le_refl _)) (Nat.pow_le_pow_right (by decide) (Nat.le_max_right _ _))
  · rw [Nat.max_le]
    have hall := (wd_le (L.take (i + 1)) (wd (L.take (i + 1)))).1 (Nat.le_refl _)
    constructor
    · rw [wd_le]
      intro x hx
      refine hall x ?_
      rw [List.take_succ_eq_append_getElem h]
      exact List.mem_append_left _ hx
    · rw [bw_le]
      have e : L.getD i 0 = L[i] := by rw [List.getD_eq_getElem?_getD, List.getElem?_eq_getElem h]; rfl
      rw [e]
      refine hall _ ?_
      rw [List.take_succ_eq_append_getElem h]
      exact List.mem_append_right _ (List.mem_singleton.2 rfl)
theorem width3_l0 (L : List Nat) (hL : ∀ x ∈ L, x < 2 ^ 64) (hlen : L.length < 9223372036854775807) (d : Nat) : ∀ i, L.length - i = d → i ≤ L.length →
    Ev (fun k => columbariumref3_Width.l0 k (ints L) (wd (L.take i) : Int) (i : Int)) (wd L : Int) := by
  induction d with
  | zero =>
    intro i hd hi
    refine Ev.step (f := fun _ => some ((wd L : Nat) : Int)) (fun k => ?_) (Ev.now _)
    rw [columbariumref3_Width.l0, if_neg (by rw [ints_length]; omega), List.take_of_length_le (by omega)]
  | succ d ih =>
    intro i hd hi
    have hi' : i < L.length := by omega
    have hx : L.getD i 0 < 2 ^ 64 := getD_lt (by decide) hL i
    have hb64 : bw (L.getD i 0) ≤ 64 := (bw_le _ _).2 hx
    have hw64 : wd (L.take i) ≤ 64 := wd_64 fun x hx => hL x (List.mem_of_mem_take hx)
    have hnext := ih (i + 1) (by omega) (by omega)
    rw [wd_take_succ L i hi'] at hnext
    have inner : ∀ e w : Nat, 64 - w = e → w ≤ 64 → max w (bw (L.getD i 0)) = max (wd (L.take i)) (bw (L.getD i 0)) → Ev (fun k => columbariumref3_Width.l1 k (ints L) (w : Int) (i : Int)) (wd L : Int) := by
      intro e
      induction e with
      | zero =>
        intro w he hw hm
        have hw' : w = 64 := by omega
        have h1 : max (wd (L.take i)) (bw (L.getD i 0)) = w := by rw [← hm]; omega
        rw [h1] at hnext
        refine Ev.step (f := fun k => columbariumref3_Width.l0 k (ints L) (w : Int) ((i + 1 : Nat) : Int)) (fun k => ?_) hnext
        rw [columbariumref3_Width.l1, if_neg (by omega), succ64 (by omega)]
      | succ e ihe =>
        intro w he hw hm
        have hw' : w < 64 := by omega
        have c1 : ((w : Nat) : Int) < 64 := by omega
        have c2 : (0 : Int) ≤ ((i : Nat) : Int) := by omega
        have c3 : ((i : Nat) : Int) < ((ints L).length : Int) := by rw [ints_length]; omega
        have c4 : (0 : Int) ≤ ((w : Nat) : Int) := by omega
        have e1 : IntKind.u64.wrap (w : Int) = (w : Int) := wu64 (by omega) (by omega)
        have e2 : shr .u64 ((L.getD i 0 : Nat) : Int) (w : Int) = ((L.getD i 0 >>> w : Nat) : Int) := shr_nat (show w ≤ IntKind.u64.bits from (show w ≤ 64 by omega))
        by_cases hz : L.getD i 0 >>> w = 0
        · have hbw := (bw_shift _ _).1 hz
          have h1 : max (wd (L.take i)) (bw (L.getD i 0)) = w := by rw [← hm]; omega
          rw [h1] at hnext
          refine Ev.step (f := fun k => columbariumref3_Width.l0 k (ints L) (w : Int) ((i + 1 : Nat) : Int)) (fun k => ?_) hnext
          rw [columbariumref3_Width.l1, e1, if_pos c1, if_pos c2, if_pos c3, if_pos c4, rd_ints, e2, hz, if_pos (by decide), succ64 (by omega)]
        · have hbw : ¬ bw (L.getD i 0) ≤ w := fun h => hz ((bw_shift _ _).2 h)
          refine Ev.step (f := fun k => columbariumref3_Width.l1 k (ints L) ((w + 1 : Nat) : Int) (i : Int)) (fun k => ?_) (ihe (w + 1) (by omega) (by omega) (by rw [← hm]; omega))
          rw [columbariumref3_Width.l1, e1, if_pos c1, if_pos c2, if_pos c3, if_pos c4, rd_ints, e2, if_neg (by omega), succ64 (by omega)]
    refine Ev.step (f := fun k => columbariumref3_Width.l1 k (ints L) (wd (L.take i) : Int) (i : Int)) (fun k => ?_) (inner _ _ rfl hw64 rfl)
    rw [columbariumref3_Width.l0, if_pos (by rw [ints_length]; omega)]
theorem width3_ev {L : List Nat} (hL : ∀ x ∈ L, x < 2 ^ 64) (hlen : L.length < 9223372036854775807) : Ev (fun k => columbariumref3_Width.f k (ints L)) (wd L : Int) := by
  unfold columbariumref3_Width.f
  have := width3_l0 L hL hlen L.length 0 (by omega) (by omega)
  simpa [wd, orAll, bw] using this

theorem pack3_l (L : List Nat) (w : Nat) (hw : w ≤ 64) (hL : ∀ x ∈ L, x < 2 ^ w) (hlen : L.length * w + 7 < 9223372036854775808) (hlen2 : L.length < 9223372036854775807) (N : Nat) (hN : N = (L.length * w + 7) / 8) (d : Nat) : ∀ i, L.length - i = d → i ≤ L.length →
    Ev (fun k => columbariumref3_Pack.l0 k (ints L) (w : Int) (ints (digits 8 N (val w L % 2 ^ (i * w)))) (i : Int)) (ints (packed L w), 0) := by
  induction d with
  | zero =>
    intro i hd hi
    have hi' : i = L.length := by omega
    refine Ev.step (f := fun _ => some (ints (packed L w), 0)) (fun k => ?_) (Ev.now _)
    rw [columbariumref3_Pack.l0, if_neg (by rw [ints_length]; omega), hi', packed, hN, Nat.mod_eq_of_lt]
    rw [Nat.mul_comm]
    exact val_lt L hL
  | succ d ih =>
    intro i hd hi
    have hi' : i < L.length := by omega
    have hx : L.getD i 0 < 2 ^ w := getD_lt (Nat.two_pow_pos w) hL i
    have hx64 : L.getD i 0 < 2 ^ 64 := Nat.lt_of_lt_of_le hx (Nat.pow_le_pow_right (by decide) hw)
    have hiw : (i + 1) * w ≤ L.length * w := Nat.mul_le_mul_right _ hi'
    have hsucc : (i + 1) * w = i * w + w := Nat.succ_mul _ _
    have inner : ∀ e j, w - j = e → j ≤ w → Ev (fun k => columbariumref3_Pack.l1 k (ints L) (w : Int) (ints (digits 8 N (val w L % 2 ^ (i * w + j)))) (i : Int) (j : Int)) (ints (packed L w), 0) := by
      intro e
      induction e with
      | zero =>
        intro j he hj
        have hj' : j = w := by omega
        have h1 : i * w + w = (i + 1) * w := hsucc.symm
        refine Ev.step (f := fun k => columbariumref3_Pack.l0 k (ints L) (w : Int) (ints (digits 8 N (val w L % 2 ^ ((i + 1) * w)))) ((i + 1 : Nat) : Int)) (fun k => ?_) (ih (i + 1) (by omega) (by omega))
        rw [columbariumref3_Pack.l1, if_neg (by omega), hj', h1, succ64 (by omega)]
      | succ e ihe =>
        intro j he hj
        have hj' : j < w := by omega
        have hj64 : j < 64 := by omega
        have hat : i * w + j < L.length * w := by omega
        have hnext := ihe (j + 1) (by omega) (by omega)
        have hqlt : (i * w + j) / 8 < N := by omega
        have b1 : i * w + j < 9223372036854775808 := by omega
        have b2 : j < 9223372036854775807 := by omega
        have c1 : ((j : Nat) : Int) < (w : Int) := by omega
        have c2 : (0 : Int) ≤ ((i : Nat) : Int) := by omega
        have c3 : ((i : Nat) : Int) < ((ints L).length : Int) := by rw [ints_length]; omega
        have c4 : (0 : Int) ≤ ((j : Nat) : Int) := by omega
        have c5 : (0 : Int) ≤ (((i * w + j) / 8 : Nat) : Int) := by omega
        have c6 : (((i * w + j) / 8 : Nat) : Int) < ((ints (digits 8 N (val w L % 2 ^ (i * w + j)))).length : Int) := by rw [ints_length, digits_length]; omega
        have c7 : (0 : Int) ≤ (((i * w + j) % 8 : Nat) : Int) := by omega
        have e1 : IntKind.u64.wrap (j : Int) = (j : Int) := wu64 (by omega) (by omega)
        have hval : (val w L).testBit (i * w + j) = (L.getD i 0).testBit j := val_testBit L hL i j hj'
        have hask := ask_bit64 hx64 hj64
        have hq := lin64 b1
        have hset := digits_set N (val w L % 2 ^ (i * w + j)) ((i * w + j) / 8) ((i * w + j) % 8) ((val w L).testBit (i * w + j)) (Nat.mod_lt _ (by decide)) hqlt (by rw [Nat.div_add_mod]; exact Nat.mod_lt _ (Nat.two_pow_pos _))
        rw [Nat.div_add_mod, ← mod_two_pow_succ, hval] at hset
        refine Ev.step (f := fun k => columbariumref3_Pack.l1 k (ints L) (w : Int) (ints (digits 8 N (val w L % 2 ^ (i * w + (j + 1))))) (i : Int) ((j + 1 : Nat) : Int)) (fun k => ?_) hnext
        cases hb : (L.getD i 0).testBit j with
        | true =>
          rw [hb] at hset hask
          have hor := or_byte (b := 1) (r := (i * w + j) % 8) (getD_lt (by decide) (digits_lt 8 N (val w L % 2 ^ (i * w + j))) ((i * w + j) / 8)) (Nat.mod_lt _ (by decide)) (Nat.le_refl 1)
          rw [columbariumref3_Pack.l1]
          simp only [hq, div8 b1, umod8 (i * w + j), e1, if_pos c1, if_pos c2, if_pos c3, if_pos c4, if_pos c5, if_pos c6, if_pos c7, rd_ints, hask]
          rw [if_pos (by rfl)]
          have h2 : Go.bits .or .u8 (((digits 8 N (val w L % 2 ^ (i * w + j))).getD ((i * w + j) / 8) 0 : Nat) : Int) (shl .u8 1 (((i * w + j) % 8 : Nat) : Int)) = (((digits 8 N (val w L % 2 ^ (i * w + j))).getD ((i * w + j) / 8) 0 ||| 1 <<< ((i * w + j) % 8) : Nat) : Int) := hor
          rw [h2, Int.toNat_natCast, ints_set]
          have h3 : true.toNat = 1 := rfl
          rw [h3] at hset
          rw [hset, succ64 b2]
          rfl
        | false =>
          rw [hb] at hask hval
          have hnx : val w L % 2 ^ (i * w + (j + 1)) = val w L % 2 ^ (i * w + j) := by
            rw [show i * w + (j + 1) = (i * w + j) + 1 from rfl, mod_two_pow_succ, hval]
            simp
          rw [columbariumref3_Pack.l1]
          simp only [e1, if_pos c1, if_pos c2, if_pos c3, if_pos c4, rd_ints, hask]
          rw [if_neg (by decide), hnx, succ64 b2]
    refine Ev.step (f := fun k => columbariumref3_Pack.l1 k (ints L) (w : Int) (ints (digits 8 N (val w L % 2 ^ (i * w + 0)))) (i : Int) ((0 : Nat) : Int)) (fun k => ?_) (inner w 0 (by omega) (by omega))
    rw [columbariumref3_Pack.l0, if_pos (by rw [ints_length]; omega)]
    rfl
/-- What both Packs come to. -/
def pck (L : List Nat) (w : Int) : List Nat × Int := if w < 0 ∨ 64 < w ∨ w < (wd L : Int) then ([], 15) else (packed L w.toNat, 0)
theorem pack3_all {L : List Nat} (hL : ∀ x ∈ L, x < 2 ^ 64) (hlen : L.length ≤ 35184372088832) (w : Int) : Ev (fun k => columbariumref3_Pack.f k (ints L) w) (ints (pck L w).1, (pck L w).2) := by
  unfold pck
  have end_ : Ev (fun k => columbariumref3_Pack.j0 k (ints L) w true) ([], 15) := Ev.step (f := fun _ => some ([], 15)) (fun k => by rw [columbariumref3_Pack.j0, if_pos rfl]) (Ev.now _)
  by_cases h0 : w < 0
  · rw [if_pos (.inl h0)]
    exact Ev.congr (fun k => by rw [columbariumref3_Pack.f, if_pos h0]) end_
  by_cases h1 : w > 64
  · rw [if_pos (.inr (.inl h1))]
    exact Ev.congr (fun k => by rw [columbariumref3_Pack.f, if_neg h0, if_pos h1]) end_
  by_cases h2 : w < (wd L : Int)
  · rw [if_pos (.inr (.inr h2))]
    refine Ev.congr (f := fun k => (columbariumref3_Width.f k (ints L)).bind fun t => columbariumref3_Pack.j0 k (ints L) w (decide (w < t))) (fun k => by rw [columbariumref3_Pack.f, if_neg h0, if_neg h1]) ?_
    refine Ev.bind (width3_ev hL (by omega)) ?_
    rw [decide_eq_true h2]
    exact end_
  · rw [if_neg (by omega)]
    obtain ⟨a, rfl⟩ := Int.eq_ofNat_of_zero_le (show 0 ≤ w by omega)
    have ha : a ≤ 64 := by omega
    have hm : L.length * a ≤ 35184372088832 * 64 := Nat.mul_le_mul hlen ha
    refine Ev.congr (f := fun k => (columbariumref3_Width.f k (ints L)).bind fun t => columbariumref3_Pack.j0 k (ints L) (a : Int) (decide ((a : Int) < t))) (fun k => by rw [columbariumref3_Pack.f, if_neg h0, if_neg h1]) ?_
    refine Ev.bind (width3_ev hL (by omega)) ?_
    rw [decide_eq_false h2]
    have hsz : wrap64 (Int.tdiv (wrap64 (wrap64 (((ints L).length : Int) * (a : Int)) + 7)) 8) = (((L.length * a + 7) / 8 : Nat) : Int) := by
      rw [ints_length]
      exact bytes_for (by omega)
    have c1 : (0 : Int) ≤ (((L.length * a + 7) / 8 : Nat) : Int) := by omega
    have c2 : (L.length * a + 7) / 8 ≤ 281474976710656 := by omega
    refine Ev.step (f := fun k => columbariumref3_Pack.l0 k (ints L) (a : Int) (ints (digits 8 ((L.length * a + 7) / 8) (val a L % 2 ^ (0 * a)))) ((0 : Nat) : Int)) (fun k => ?_) (pack3_l L a ha ((wd_le L _).1 (by omega)) (by omega) (by omega) _ rfl L.length 0 (by omega) (by omega))
    rw [columbariumref3_Pack.j0, if_neg (by decide), hsz, if_pos c1, Int.toNat_natCast, if_pos c2, show (0 : Int) = ((0 : Nat) : Int) from rfl, ints_replicate]
    simp [Nat.mod_one, digits_zero]

end Go.Proofs.Ytodadonpfcefbaa.QDelsReads
