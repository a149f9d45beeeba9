/- The document's same and Put. -/
import Derived.Test.YtodadonpfcefbaaTRADelsReads
import Derived.Test.YtodadonpfcefbaaTRefBitsDelsReads
namespace Go.Proofs.Ytodadonpfcefbaa.QDelsReads
open Go.RowKit Go.Proofs.YtodadonpfcefbaaW.PrintWords Go.Proofs.YtodadonpfcefbaaW.PrintLast Go.Proofs.YtodadonpfcefbaaW.PrintMore Go.Proofs.Ytodadonpfcefbaa.Base
set_option linter.unusedVariables false
set_option linter.unusedSimpArgs false
set_option linter.unusedSectionVars false

theorem same5_l (L : List Nat) (i : Nat) (hi : i < L.length) (hb : L.length < 9223372036854775807) (d : Nat) : ∀ j, L.length - j = d → i ≤ j → j ≤ L.length →
    Ev (fun k => columbariumref5_same.l0 k (ints L) (i : Int) (j : Int)) ((j + cnt L (L.getD i 0) j - i : Nat) : Int) := by
  induction d with
  | zero =>
    intro j hd hij hj
    refine Ev.step (f := fun _ => some ((j + cnt L (L.getD i 0) j - i : Nat) : Int)) (fun k => ?_) (Ev.now _)
    rw [columbariumref5_same.l0, if_neg (by rw [ints_length]; omega), cnt_end L _ j (by omega), w64 (by omega) (by omega)]
    congr 1
    omega
  | succ d ih =>
    intro j hd hij hj
    have hj' : j < L.length := by omega
    by_cases h : L.getD j 0 = L.getD i 0
    · rw [cnt_eq L _ j hj' h, show j + (cnt L (L.getD i 0) (j + 1) + 1) - i = j + 1 + cnt L (L.getD i 0) (j + 1) - i by omega]
      refine Ev.step (f := fun k => columbariumref5_same.l0 k (ints L) (i : Int) ((j + 1 : Nat) : Int)) (fun k => ?_) (ih (j + 1) (by omega) (by omega) (by omega))
      rw [columbariumref5_same.l0, if_pos (by rw [ints_length]; omega), if_pos (by omega), if_pos (by omega), if_pos (by rw [ints_length]; omega), rd_ints, rd_ints, h, if_pos rfl, succ64 (by omega)]
    · rw [cnt_ne L _ j hj' h]
      refine Ev.step (f := fun _ => some ((j + 0 - i : Nat) : Int)) (fun k => ?_) (Ev.now _)
      rw [columbariumref5_same.l0, if_pos (by rw [ints_length]; omega), if_pos (by omega), if_pos (by omega), if_pos (by rw [ints_length]; omega), rd_ints, rd_ints, if_neg (by omega), w64 (by omega) (by omega)]
      congr 1
      omega
theorem same5_ev (L : List Nat) (i : Nat) (hi : i < L.length) (hb : L.length < 9223372036854775807) : Ev (fun k => columbariumref5_same.f k (ints L) (i : Int)) ((sameN L i : Nat) : Int) := by
  have := same5_l L i hi hb _ i rfl (by omega) (by omega)
  rw [show i + cnt L (L.getD i 0) i - i = sameN L i from by unfold sameN; omega] at this
  exact Ev.congr (fun k => by rw [columbariumref5_same.f]) this
theorem put1_l (n : Nat) : n < 2 ^ 64 → ∀ A : List Nat, A.length + (putN n).length < 140737488355328 → Ev (fun k => columbariumref1_Put.l0 k (n : Int) (ints A)) (ints (A ++ putN n)) := by
  induction n using Nat.strongRecOn with
  | _ n ih =>
    intro hn A hA
    by_cases h : n < 128
    · rw [putN_small h] at hA ⊢
      refine Ev.step (f := fun _ => some (ints (A ++ [n]))) (fun k => ?_) (Ev.now _)
      rw [columbariumref1_Put.l0, if_neg (by omega), if_pos (by rw [ints_length]; simp at hA; omega), show (n : Int) % 256 = (n : Int) by omega]
      rw [show [(n : Int)] = ints [n] from rfl, ints_append]
    · rw [putN_big h] at hA ⊢
      rw [List.length_cons] at hA
      refine Ev.step (f := fun k => columbariumref1_Put.l0 k ((n / 128 : Nat) : Int) (ints (A ++ [n % 128 + 128]))) (fun k => ?_) ?_
      · rw [columbariumref1_Put.l0, if_pos (by omega), if_pos (by rw [ints_length]; omega), show (128 : Int) = ((128 : Nat) : Int) from rfl, tmod_nat, tdiv_nat, wu64 (by omega) (by omega)]
        rw [show (((n % 128 : Nat) : Int) + ((128 : Nat) : Int)) % 256 = ((n % 128 + 128 : Nat) : Int) by omega, show [((n % 128 + 128 : Nat) : Int)] = ints [n % 128 + 128] from rfl, ints_append]
      · have := ih (n / 128) (by omega) (by omega) (A ++ [n % 128 + 128]) (by rw [List.length_append, List.length_singleton]; omega)
        rw [List.append_assoc] at this
        exact this
theorem put1_ev {n : Nat} (hn : n < 2 ^ 64) (A : List Nat) (hA : A.length < 140737488355000) : Ev (fun k => columbariumref1_Put.f k (ints A) (n : Int)) (ints (A ++ putN n)) := by
  have h10 := putN_10 hn
  refine Ev.congr (f := fun k => columbariumref1_Put.l0 k (n : Int) (ints A)) (fun k => by rw [columbariumref1_Put.f, Option.bind_some, if_pos (by rw [ints_length]; simp; omega)]; rfl) ?_
  exact put1_l n hn A (by omega)

end Go.Proofs.Ytodadonpfcefbaa.QDelsReads

namespace Go.Proofs.Ytodadonpfcefbaa.QDelsReads
open Go.RowKit Go.Proofs.YtodadonpfcefbaaW.PrintWords Go.Proofs.YtodadonpfcefbaaW.PrintLast Go.Proofs.YtodadonpfcefbaaW.PrintMore Go.Proofs.Ytodadonpfcefbaa.Base
set_option linter.unusedVariables false
set_option linter.unusedSimpArgs false
set_option linter.unusedSectionVars false

theorem few_l (n c w : Nat) (hw : w ≤ 64) (hc : c = (w + 7) / 8) (d : Nat) : ∀ j, c - j = d → j ≤ c → Ev (fun k => columbariumref5_few.l0 k (n : Int) (w : Int) (ints (fewN n j)) ((8 * j : Nat) : Int)) (ints (fewN n c)) := by
  induction d with
  | zero =>
    intro j hd hj
    obtain rfl : j = c := by omega
    refine Ev.step (f := fun _ => some (ints (fewN n j))) (fun k => ?_) (Ev.now _)
    rw [columbariumref5_few.l0, if_neg (by omega)]
  | succ d ih =>
    intro j hd hj
    refine Ev.step (f := fun k => columbariumref5_few.l0 k (n : Int) (w : Int) (ints (fewN n (j + 1))) ((8 * (j + 1) : Nat) : Int)) (fun k => ?_) (ih (j + 1) (by omega) (by omega))
    rw [columbariumref5_few.l0, if_pos (by omega), wu64 (by omega) (by omega), if_pos (by omega), if_pos (by rw [ints_length, fewN_length]; omega), shr_byte (by omega), w64 (by omega) (by omega)]
    rw [fewN_succ, ← ints_append]
    rfl
theorem few_ev (n w : Nat) (hw : w ≤ 64) : Ev (fun k => columbariumref5_few.f k (n : Int) (w : Int)) (ints (fewN n ((w + 7) / 8))) :=
  Ev.congr (fun k => by rw [columbariumref5_few.f]; rfl) (few_l n _ w hw rfl _ 0 rfl (by omega))

section
variable {L : List Nat} {w : Nat} (hw : w ≤ 32) (hL : ∀ x ∈ L, x < 2 ^ w) (hlen : L.length ≤ 1048600)
include hw hL hlen
theorem take_drop_min (i e : Nat) (hi : i ≤ L.length) (he : i ≤ e) : (L.take (min e L.length)).drop i = (L.drop i).take (e - i) := by
  rw [List.drop_take]
  rcases Nat.le_total e L.length with h | h
  · rw [Nat.min_eq_left h]
  · rw [Nat.min_eq_right h, List.take_of_length_le (show (L.drop i).length ≤ L.length - i by rw [List.length_drop]; omega), List.take_of_length_le (by rw [List.length_drop]; omega)]
/-- Zeros are put behind, till the groups are full. -/
theorem ref_l2 {i g : Nat} {out : List Nat} (hi : i < L.length) (hg : 1 ≤ g) (hg2 : 8 * g ≤ L.length + 7) (hout : out.length ≤ 50000000) (at_ : Nat) {r : List Int × Int}
    (hr : Ev (fun k => columbariumref5_Encode.l0 k (ints L) (w : Int) (ints (out ++ putN (2 * g + 1) ++ packed (chunkN L i g) w)) (at_ : Int)) r) (d : Nat) : ∀ j, 8 * g - (L.length - i) - j = d → j ≤ 8 * g - (L.length - i) →
    Ev (fun k => columbariumref5_Encode.l2 k (ints L) (w : Int) (ints out) (at_ : Int) (g : Int) (ints ((L.drop i).take (8 * g) ++ List.replicate j 0))) r := by
  have hpl := packed_chunk_length hw hL hlen i g
  have hpt := putN_10 (n := 2 * g + 1) (by omega)
  have hl : ∀ j, ((L.drop i).take (8 * g) ++ List.replicate j 0).length = min (8 * g) (L.length - i) + j := fun j => by rw [List.length_append, List.length_take, List.length_drop, List.length_replicate]
  induction d with
  | zero =>
    intro j hd hj
    obtain rfl : j = 8 * g - (L.length - i) := by omega
    have hlj := hl (8 * g - (L.length - i))
    rw [show (L.drop i).take (8 * g) ++ List.replicate (8 * g - (L.length - i)) 0 = chunkN L i g from rfl] at hlj ⊢
    refine Ev.step (f := fun k => (columbariumref3_Pack.f k (ints (chunkN L i g)) (w : Int)).bind fun bt => (columbariumref1_Put.f k (ints out) ((2 * g + 1 : Nat) : Int)).bind fun t => if t.length + bt.1.length < 140737488355328 then columbariumref5_Encode.l0 k (ints L) (w : Int) (t ++ bt.1) (at_ : Int) else none) (fun k => ?_) ?_
    · rw [columbariumref5_Encode.l2, if_neg (by rw [ints_length, w64 (by omega) (by omega)]; omega), wu64 (x := (g : Int)) (by omega) (by omega), wu64 (x := 2 * (g : Int)) (by omega) (by omega), wu64 (by omega) (by omega)]
      rfl
    · have hp := pack3_all (L := chunkN L i g) (chunkN_lt (Nat.two_pow_pos 64) (fun x hx => Nat.lt_of_lt_of_le (hL x hx) (Nat.pow_le_pow_right (by decide) (by omega))) i g) (by rw [chunkN_length]; omega) (w : Int)
      have hpk : pck (chunkN L i g) (w : Int) = (packed (chunkN L i g) w, 0) := by
        unfold pck
        rw [if_neg (by have := (wd_le (chunkN L i g) w).2 (chunkN_lt (Nat.two_pow_pos w) hL i g); omega)]
        rfl
      rw [hpk] at hp
      have hp : Ev (fun k => columbariumref3_Pack.f k (ints (chunkN L i g)) (w : Int)) (ints (packed (chunkN L i g) w), 0) := hp
      refine Ev.bind hp (Ev.bind (put1_ev (by omega) out (by omega)) ?_)
      refine Ev.congr (fun k => ?_) hr
      rw [if_pos (by rw [ints_length, ints_length, List.length_append]; omega), ints_append]
  | succ d ih =>
    intro j hd hj
    have hlj := hl j
    refine Ev.step (f := fun k => columbariumref5_Encode.l2 k (ints L) (w : Int) (ints out) (at_ : Int) (g : Int) (ints ((L.drop i).take (8 * g) ++ List.replicate (j + 1) 0))) (fun k => ?_) (ih (j + 1) (by omega) (by omega))
    rw [columbariumref5_Encode.l2, if_pos (by rw [ints_length, w64 (by omega) (by omega)]; omega), if_pos (by rw [ints_length]; omega), List.replicate_succ', ← List.append_assoc, ← ints_append ((L.drop i).take (8 * g) ++ List.replicate j 0)]
    rfl
theorem ref_j3 {i g : Nat} {out : List Nat} (hi : i < L.length) (hg : 1 ≤ g) (hg2 : i + 8 * g ≤ L.length + 7) (hout : out.length ≤ 50000000) {r : List Int × Int}
    (hr : Ev (fun k => columbariumref5_Encode.l0 k (ints L) (w : Int) (ints (out ++ putN (2 * g + 1) ++ packed (chunkN L i g) w)) ((min (i + 8 * g) L.length : Nat) : Int)) r) :
    Ev (fun k => columbariumref5_Encode.j3 k (ints L) (w : Int) (ints out) ((i + 8 * g : Nat) : Int) (i : Int) (g : Int)) r := by
  have h4 : Ev (fun k => columbariumref5_Encode.j4 k (ints L) (w : Int) (ints out) ((min (i + 8 * g) L.length : Nat) : Int) (i : Int) (g : Int)) r := by
    have hz := ref_l2 hw hL hlen hi hg (by omega) hout (min (i + 8 * g) L.length) hr _ 0 rfl (by omega)
    rw [List.replicate_zero, List.append_nil] at hz
    have hc := take_drop_min hw hL hlen i (i + 8 * g) (by omega) (by omega)
    rw [Nat.add_sub_cancel_left] at hc
    refine Ev.step (f := fun k => columbariumref5_Encode.l2 k (ints L) (w : Int) (ints out) ((min (i + 8 * g) L.length : Nat) : Int) (g : Int) (ints ((L.drop i).take (8 * g)))) (fun k => ?_) hz
    rw [columbariumref5_Encode.j4, Option.bind_some, if_pos (by omega), if_pos (by omega), if_pos (by rw [ints_length]; omega), Int.toNat_natCast, Int.toNat_natCast, ints_take, ints_drop, hc, if_pos (by rw [ints_length, List.length_take, List.length_drop, List.length_nil]; omega)]
    rfl
  by_cases h : L.length < i + 8 * g
  · refine Ev.step (fun k => ?_) h4
    rw [columbariumref5_Encode.j3, if_pos (by rw [ints_length]; omega), ints_length, Nat.min_eq_right (by omega)]
  · refine Ev.step (fun k => ?_) h4
    rw [columbariumref5_Encode.j3, if_neg (by rw [ints_length]; omega), Nat.min_eq_left (by omega)]
theorem ref_l1 {i : Nat} {out : List Nat} (hi : i < L.length) (hout : out.length ≤ 50000000) {r : List Int × Int} : ∀ d e g, L.length - e ≤ d → e = i + 8 * g → 1 ≤ g → e ≤ L.length + 7 →
    Ev (fun k => columbariumref5_Encode.l0 k (ints L) (w : Int) (ints (out ++ putN (2 * (g + grpN L e) + 1) ++ packed (chunkN L i (g + grpN L e)) w)) ((min (i + 8 * (g + grpN L e)) L.length : Nat) : Int)) r →
    Ev (fun k => columbariumref5_Encode.l1 k (ints L) (w : Int) (ints out) (e : Int) (i : Int) (g : Int)) r := by
  intro d
  induction d using Nat.strongRecOn with
  | _ d ih =>
    intro e g hd he hg hg2 hr
    by_cases h1 : e < L.length
    · by_cases h2 : sameN L e < 8
      · rw [grpN_go ⟨h1, h2⟩, show g + (grpN L (e + 8) + 1) = g + 1 + grpN L (e + 8) by omega] at hr
        refine Ev.step (f := fun k => (columbariumref5_same.f k (ints L) (e : Int)).bind fun t => if t < 8 then columbariumref5_Encode.l1 k (ints L) (w : Int) (ints out) (wrap64 ((e : Int) + 8)) (i : Int) (wrap64 ((g : Int) + 1)) else columbariumref5_Encode.j3 k (ints L) (w : Int) (ints out) (e : Int) (i : Int) (g : Int)) (fun k => ?_) ?_
        · rw [columbariumref5_Encode.l1, if_pos (by rw [ints_length]; omega), if_neg (by omega)]
        · refine Ev.bind (same5_ev L e h1 (by omega)) ?_
          refine Ev.congr (f := fun k => columbariumref5_Encode.l1 k (ints L) (w : Int) (ints out) ((e + 8 : Nat) : Int) (i : Int) ((g + 1 : Nat) : Int)) (fun k => ?_) (ih (L.length - (e + 8)) (by omega) (e + 8) (g + 1) (Nat.le_refl _) (by omega) (by omega) (by omega) hr)
          rw [if_pos (by omega), w64 (x := (e : Int) + 8) (by omega) (by omega), w64 (x := (g : Int) + 1) (by omega) (by omega)]
          rfl
      · rw [grpN_no (by omega), Nat.add_zero] at hr
        refine Ev.step (f := fun k => (columbariumref5_same.f k (ints L) (e : Int)).bind fun t => if t < 8 then columbariumref5_Encode.l1 k (ints L) (w : Int) (ints out) (wrap64 ((e : Int) + 8)) (i : Int) (wrap64 ((g : Int) + 1)) else columbariumref5_Encode.j3 k (ints L) (w : Int) (ints out) (e : Int) (i : Int) (g : Int)) (fun k => ?_) ?_
        · rw [columbariumref5_Encode.l1, if_pos (by rw [ints_length]; omega), if_neg (by omega)]
        · refine Ev.bind (same5_ev L e h1 (by omega)) ?_
          refine Ev.congr (f := fun k => columbariumref5_Encode.j3 k (ints L) (w : Int) (ints out) ((i + 8 * g : Nat) : Int) (i : Int) (g : Int)) (fun k => ?_) (ref_j3 hw hL hlen hi hg (by omega) hout hr)
          rw [if_neg (by omega), he]
    · rw [grpN_no (by omega), Nat.add_zero] at hr
      refine Ev.step (f := fun k => columbariumref5_Encode.j3 k (ints L) (w : Int) (ints out) ((i + 8 * g : Nat) : Int) (i : Int) (g : Int)) (fun k => ?_) (ref_j3 hw hL hlen hi hg (by omega) hout hr)
      rw [columbariumref5_Encode.l1, if_neg (by rw [ints_length]; omega), ← he]
theorem ref_l0 : ∀ d i out, L.length - i ≤ d → out.length ≤ 42 * (i + 8) → i ≤ L.length → (i < L.length → out.length ≤ 42 * i) → Ev (fun k => columbariumref5_Encode.l0 k (ints L) (w : Int) (ints out) (i : Int)) (ints (encS L w i out), 0) := by
  intro d
  induction d using Nat.strongRecOn with
  | _ d ih =>
    intro i out hd hout0 hi2 hout1
    by_cases hi : i < L.length
    · have hout := hout1 hi
      by_cases h8 : 8 ≤ sameN L i
      · have hs := sameN_le L i
        have hpt := putN_10 (n := 2 * sameN L i) (by omega)
        rw [encS_run hi h8]
        refine Ev.step (f := fun k => (columbariumref5_same.f k (ints L) (i : Int)).bind fun t => if t ≥ 8 then ((columbariumref1_Put.f k (ints out) (IntKind.u64.wrap (2 * (IntKind.u64.wrap t)))).bind fun t215 => if 0 ≤ (i : Int) then ((columbariumref5_few.f k (rd (ints L) (i : Int)) (w : Int)).bind fun t219 => if t215.length + t219.length < 140737488355328 then columbariumref5_Encode.l0 k (ints L) (w : Int) (t215 ++ t219) (wrap64 ((i : Int) + t)) else none) else none) else columbariumref5_Encode.l1 k (ints L) (w : Int) (ints out) (i : Int) (i : Int) 0) (fun k => by rw [columbariumref5_Encode.l0, if_pos (by rw [ints_length]; omega)]) ?_
        refine Ev.bind (same5_ev L i hi (by omega)) ?_
        refine Ev.congr (f := fun k => (columbariumref1_Put.f k (ints out) ((2 * sameN L i : Nat) : Int)).bind fun t215 => (columbariumref5_few.f k ((L.getD i 0 : Nat) : Int) (w : Int)).bind fun t219 => if t215.length + t219.length < 140737488355328 then columbariumref5_Encode.l0 k (ints L) (w : Int) (t215 ++ t219) ((i + sameN L i : Nat) : Int) else none) (fun k => ?_) ?_
        · rw [if_pos (by omega), wu64 (x := (sameN L i : Int)) (by omega) (by omega), wu64 (by omega) (by omega), rd_ints, w64 (by omega) (by omega)]
          simp only [if_pos (show (0 : Int) ≤ (i : Int) by omega)]
          rfl
        · refine Ev.bind (put1_ev (by omega) out (by omega)) (Ev.bind (few_ev _ w (by omega)) ?_)
          refine Ev.congr (fun k => ?_) (ih (L.length - (i + sameN L i)) (by omega) (i + sameN L i) (out ++ putN (2 * sameN L i) ++ fewN (L.getD i 0) ((w + 7) / 8)) (Nat.le_refl _) ?_ (by omega) ?_)
          · rw [if_pos (by rw [ints_length, ints_length, List.length_append, fewN_length]; omega), ints_append]
          · rw [List.length_append, List.length_append, fewN_length]; omega
          · rw [List.length_append, List.length_append, fewN_length]; omega
      · rw [encS_grp hi h8]
        have hgl := grpN_le L _ (i + 8) (Nat.le_refl _)
        refine Ev.step (f := fun k => (columbariumref5_same.f k (ints L) (i : Int)).bind fun t => if t ≥ 8 then ((columbariumref1_Put.f k (ints out) (IntKind.u64.wrap (2 * (IntKind.u64.wrap t)))).bind fun t215 => if 0 ≤ (i : Int) then ((columbariumref5_few.f k (rd (ints L) (i : Int)) (w : Int)).bind fun t219 => if t215.length + t219.length < 140737488355328 then columbariumref5_Encode.l0 k (ints L) (w : Int) (t215 ++ t219) (wrap64 ((i : Int) + t)) else none) else none) else columbariumref5_Encode.l1 k (ints L) (w : Int) (ints out) (i : Int) (i : Int) 0) (fun k => by rw [columbariumref5_Encode.l0, if_pos (by rw [ints_length]; omega)]) ?_
        refine Ev.bind (same5_ev L i hi (by omega)) ?_
        refine Ev.congr (fun k => by rw [if_neg (by omega)]) ?_
        refine Ev.step (f := fun k => columbariumref5_Encode.l1 k (ints L) (w : Int) (ints out) ((i + 8 : Nat) : Int) (i : Int) ((1 : Nat) : Int)) (fun k => ?_) ?_
        · rw [columbariumref5_Encode.l1, if_pos (by rw [ints_length]; omega), if_pos rfl, w64 (x := (i : Int) + 8) (by omega) (by omega), w64 (x := (0 : Int) + 1) (by decide) (by decide)]
          rfl
        · refine ref_l1 hw hL hlen hi (by omega) _ (i + 8) 1 (Nat.le_refl _) (by omega) (by omega) (by omega) ?_
          rw [Nat.add_comm 1]
          have hpl := packed_chunk_length hw hL hlen i (grpN L (i + 8) + 1)
          have hpt := putN_10 (n := 2 * (grpN L (i + 8) + 1) + 1) (by omega)
          by_cases hx : i + 8 * (grpN L (i + 8) + 1) < L.length
          · rw [Nat.min_eq_left (by omega)]
            exact ih (L.length - (i + 8 * (grpN L (i + 8) + 1))) (by omega) _ _ (Nat.le_refl _) (by rw [List.length_append, List.length_append]; omega) (by omega) (fun _ => by rw [List.length_append, List.length_append]; omega)
          · rw [Nat.min_eq_right (by omega), encS_end (by omega)]
            have := ih 0 (by omega) L.length (out ++ putN (2 * (grpN L (i + 8) + 1) + 1) ++ packed (chunkN L i (grpN L (i + 8) + 1)) w) (by omega) (by rw [List.length_append, List.length_append]; omega) (Nat.le_refl _) (fun h => absurd h (by omega))
            rwa [encS_end (Nat.le_refl _)] at this
    · rw [encS_end (by omega)]
      refine Ev.step (f := fun _ => some (ints out, 0)) (fun k => ?_) (Ev.now _)
      rw [columbariumref5_Encode.l0, if_neg (by rw [ints_length]; omega)]
end

/-! ### whole -/
theorem enc5_ev {L : List Nat} (hL : ∀ x ∈ L, x < 2 ^ 64) (hlen : L.length ≤ 1048600) (w : Int) : Ev (fun k => columbariumref5_Encode.f k (ints L) w) (ints (enc L w).1, (enc L w).2) := by
  have hbad : Ev (fun k => columbariumref5_Encode.j0 k (ints L) w true) (([] : List Int), 15) := Ev.step (f := fun _ => some (([] : List Int), 15)) (fun k => by rw [columbariumref5_Encode.j0, if_pos rfl]) (Ev.now _)
  unfold enc
  by_cases h1 : w < 0
  · rw [if_pos (.inl h1)]
    exact Ev.congr (fun k => by rw [columbariumref5_Encode.f, if_pos h1]) hbad
  by_cases h2 : w > 32
  · rw [if_pos (.inr (.inl h2))]
    exact Ev.congr (fun k => by rw [columbariumref5_Encode.f, if_neg h1, if_pos h2]) hbad
  refine Ev.congr (fun k => by rw [columbariumref5_Encode.f, if_neg h1, if_neg h2]) (Ev.bind (width3_ev hL (by omega)) ?_)
  by_cases h3 : w < (wd L : Int)
  · rw [if_pos (.inr (.inr h3)), decide_eq_true h3]
    exact hbad
  · rw [if_neg (by omega), decide_eq_false h3]
    obtain ⟨v, rfl⟩ := Int.eq_ofNat_of_zero_le (show 0 ≤ w by omega)
    refine Ev.step (f := fun k => columbariumref5_Encode.l0 k (ints L) (v : Int) (ints []) ((0 : Nat) : Int)) (fun k => by rw [columbariumref5_Encode.j0, if_neg (by decide)]; rfl) ?_
    exact ref_l0 (by omega) ((wd_le L v).1 (by omega)) hlen _ 0 [] (Nat.le_refl _) (by simp) (by omega) (by simp)

end Go.Proofs.Ytodadonpfcefbaa.QDelsReads
