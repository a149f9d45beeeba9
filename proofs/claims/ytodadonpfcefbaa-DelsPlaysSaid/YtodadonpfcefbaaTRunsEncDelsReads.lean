/- runs.Encode and the document's Encode come to the same. -/
import Derived.Test.YtodadonpfcefbaaTRunsPutDelsReads
namespace Go.Proofs.Ytodadonpfcefbaa.QDelsReads
open Go.RowKit Go.Proofs.YtodadonpfcefbaaW.PrintWords Go.Proofs.YtodadonpfcefbaaW.PrintLast Go.Proofs.YtodadonpfcefbaaW.PrintMore Go.Proofs.Ytodadonpfcefbaa.Base
set_option linter.unusedVariables false
set_option linter.unusedSimpArgs false
set_option linter.unusedSectionVars false

/-! ### a number in few bytes -/
def fewN (n c : Nat) : List Nat := (List.range c).map fun k => (n >>> (8 * k)) % 256
theorem fewN_length (n c : Nat) : (fewN n c).length = c := by simp [fewN]
theorem fewN_succ (n c : Nat) : fewN n (c + 1) = fewN n c ++ [(n >>> (8 * c)) % 256] := by simp [fewN, List.range_succ]
theorem fewN_lt (n c : Nat) : ∀ x ∈ fewN n c, x < 256 := by
  intro x hx
  obtain ⟨k, _, rfl⟩ := List.mem_map.1 hx
  exact Nat.mod_lt _ (by decide)
theorem shr_byte {n : Nat} {j : Nat} (hj : j ≤ 64) : (shr .u64 (n : Int) (j : Int)) % 256 = (((n >>> j) % 256 : Nat) : Int) := by
  rw [shr_nat (show j ≤ IntKind.u64.bits from hj)]
  omega
/-- The program's own loop, to what follows behind it. -/
theorem run_l (L : List Nat) (w i n : Nat) (hi : i < L.length) (hb : L.length < 9223372036854775807) (c : Nat) (hc : c ≤ 8) (hn : i + n < 9223372036854775807) (A : List Nat) (hA : A.length + 8 < 140737488355328) (r : List Int × Int)
    (hr : Ev (fun k => runs_Encode.l0 k (ints L) (w : Int) (ints (A ++ fewN (L.getD i 0) c)) ((i + n : Nat) : Int)) r) (d : Nat) : ∀ j, c - j = d → j ≤ c →
    Ev (fun k => runs_Encode.l1 k (ints L) (w : Int) (ints (A ++ fewN (L.getD i 0) j)) (i : Int) (n : Int) (c : Int) (j : Int)) r := by
  induction d with
  | zero =>
    intro j hd hj
    obtain rfl : j = c := by omega
    refine Ev.step (f := fun k => runs_Encode.l0 k (ints L) (w : Int) (ints (A ++ fewN (L.getD i 0) j)) ((i + n : Nat) : Int)) (fun k => ?_) hr
    rw [runs_Encode.l1, if_neg (by omega), w64 (by omega) (by omega)]
    rfl
  | succ d ih =>
    intro j hd hj
    refine Ev.step (f := fun k => runs_Encode.l1 k (ints L) (w : Int) (ints (A ++ fewN (L.getD i 0) (j + 1))) (i : Int) (n : Int) (c : Int) ((j + 1 : Nat) : Int)) (fun k => ?_) (ih (j + 1) (by omega) (by omega))
    have e8 : wrap64 (8 * (j : Int)) = ((8 * j : Nat) : Int) := by rw [w64 (by omega) (by omega)]; omega
    rw [runs_Encode.l1, if_pos (by omega), if_pos (by omega), if_pos (by rw [ints_length]; omega), e8, if_pos (by omega), if_pos (by rw [ints_length, List.length_append, fewN_length]; omega), rd_ints, shr_byte (by omega), succ64 (by omega)]
    rw [fewN_succ, ← List.append_assoc, ← ints_append (A ++ fewN (L.getD i 0) j)]
    rfl
/-! ### the groups -/
/-- How many groups of eight more there are from a place on. -/
def grpN (L : List Nat) (e : Nat) : Nat := if h : e < L.length ∧ sameN L e < 8 then grpN L (e + 8) + 1 else 0
termination_by L.length - e
decreasing_by omega
theorem grpN_go {L : List Nat} {e : Nat} (h : e < L.length ∧ sameN L e < 8) : grpN L e = grpN L (e + 8) + 1 := by rw [grpN, dif_pos h]
theorem grpN_no {L : List Nat} {e : Nat} (h : ¬ (e < L.length ∧ sameN L e < 8)) : grpN L e = 0 := by rw [grpN, dif_neg h]
theorem grpN_le (L : List Nat) : ∀ d e, L.length - e ≤ d → e + 8 * grpN L e ≤ max e (L.length + 7) := by
  intro d
  induction d using Nat.strongRecOn with
  | _ d ih =>
    intro e hd
    by_cases h : e < L.length ∧ sameN L e < 8
    · rw [grpN_go h]
      have := ih (L.length - (e + 8)) (by omega) (e + 8) (by omega)
      omega
    · rw [grpN_no h]
      omega
/-- The numbers of some groups, zeros behind. -/
def chunkN (L : List Nat) (i g : Nat) : List Nat := (L.drop i).take (8 * g) ++ List.replicate (8 * g - (L.length - i)) 0
theorem chunkN_length (L : List Nat) (i g : Nat) : (chunkN L i g).length = 8 * g := by
  rw [chunkN, List.length_append, List.length_take, List.length_drop, List.length_replicate]
  omega
theorem chunkN_lt {L : List Nat} {B : Nat} (hB : 0 < B) (h : ∀ x ∈ L, x < B) (i g : Nat) : ∀ x ∈ chunkN L i g, x < B := by
  intro x hx
  rcases List.mem_append.1 hx with hx | hx
  · exact h x (List.mem_of_mem_drop (List.mem_of_mem_take hx))
  · rw [List.eq_of_mem_replicate hx]
    exact hB
theorem copy_chunk (L : List Nat) (i g : Nat) : copyL_52 (List.replicate (8 * g) (0 : Int)) (ints (L.drop i)) = ints (chunkN L i g) := by
  unfold copyL_52 chunkN
  have hm : Nat.min (ints (L.drop i)).length (List.replicate (8 * g) (0 : Int)).length = min (L.length - i) (8 * g) := by rw [ints_length, List.length_drop, List.length_replicate]
  rw [hm, ints_take, show List.replicate (8 * g) (0 : Int) = ints (List.replicate (8 * g) 0) from ints_replicate _ 0, ints_drop, ints_append, List.drop_replicate]
  congr 2
  · rcases Nat.le_total (L.length - i) (8 * g) with h | h
    · rw [Nat.min_eq_left h, List.take_of_length_le (by rw [List.length_drop]; omega)]; exact (List.take_of_length_le (by rw [List.length_drop]; omega)).symm
    · rw [Nat.min_eq_right h]
  · congr 1
    omega
/-- What a list is written as, from a place on. -/
def encS (L : List Nat) (w i : Nat) (out : List Nat) : List Nat :=
  if h : i < L.length then
    (if h8 : 8 ≤ sameN L i then encS L w (i + sameN L i) (out ++ putN (2 * sameN L i) ++ fewN (L.getD i 0) ((w + 7) / 8))
    else encS L w (i + 8 * (grpN L (i + 8) + 1)) (out ++ putN (2 * (grpN L (i + 8) + 1) + 1) ++ packed (chunkN L i (grpN L (i + 8) + 1)) w))
  else out
termination_by L.length - i
decreasing_by all_goals omega
theorem encS_end {L : List Nat} {w i : Nat} {out : List Nat} (h : L.length ≤ i) : encS L w i out = out := by rw [encS, dif_neg (by omega)]
theorem encS_run {L : List Nat} {w i : Nat} {out : List Nat} (h : i < L.length) (h8 : 8 ≤ sameN L i) : encS L w i out = encS L w (i + sameN L i) (out ++ putN (2 * sameN L i) ++ fewN (L.getD i 0) ((w + 7) / 8)) := by
  rw [encS, dif_pos h, dif_pos h8]
theorem encS_grp {L : List Nat} {w i : Nat} {out : List Nat} (h : i < L.length) (h8 : ¬ 8 ≤ sameN L i) : encS L w i out = encS L w (i + 8 * (grpN L (i + 8) + 1)) (out ++ putN (2 * (grpN L (i + 8) + 1) + 1) ++ packed (chunkN L i (grpN L (i + 8) + 1)) w) := by
  rw [encS, dif_pos h, dif_neg h8]

/-! ### runs.Encode -/
def encFin (k : Nat) (x0 : List Int) (x1 : Int) (x6 : List Int) (x7 x10 : Int) : Option (List Int × Int) :=
  (if 0 ≤ (wrap64 (x10 - x7)) then (if (wrap64 (x10 - x7) : Int).toNat ≤ 35184372088832 then ((some (List.replicate (wrap64 (x10 - x7) : Int).toNat 0 : List Int)).bind fun y136 => (if 0 ≤ x7 then (if x7 ≤ (x0.length : Int) then ((copy_52.f y136 (x0.drop (x7 : Int).toNat)).bind fun bt140 => ((bits_Pack.f k bt140.2 x1).bind fun bt142 => ((varint_Put.f k ([] : List Int) (IntKind.u64.wrap (wrap64 ((wrap64 (Int.tdiv (wrap64 (2 * (y136.length : Int))) 8)) + 1)))).bind fun t146 => (if x6.length + t146.length < 140737488355328 then ((some (x6 ++ t146 : List Int)).bind fun y149 => (if y149.length + bt142.1.length < 140737488355328 then (runs_Encode.l0 k x0 x1 (y149 ++ bt142.1) x10) else (none))) else (none))))) else (none)) else (none))) else (none)) else (none))
section
variable {L : List Nat} {w : Nat} (hw : w ≤ 32) (hL : ∀ x ∈ L, x < 2 ^ w) (hlen : L.length ≤ 1048600)
include hw hL hlen
theorem packed_chunk_length (i g : Nat) : (packed (chunkN L i g) w).length ≤ 32 * g := by
  rw [packed_length, chunkN_length]
  have : 8 * g * w ≤ 8 * g * 32 := Nat.mul_le_mul_left _ hw
  omega
theorem fin_ev {i g : Nat} {out : List Nat} (hi : i < L.length) (hg : 1 ≤ g) (hg2 : 8 * g ≤ L.length + 7) (hout : out.length ≤ 50000000) {r : List Int × Int}
    (hr : Ev (fun k => runs_Encode.l0 k (ints L) (w : Int) (ints (out ++ putN (2 * g + 1) ++ packed (chunkN L i g) w)) ((i + 8 * g : Nat) : Int)) r) :
    Ev (fun k => encFin k (ints L) (w : Int) (ints out) (i : Int) ((i + 8 * g : Nat) : Int)) r := by
  have e1 : wrap64 (((i + 8 * g : Nat) : Int) - (i : Int)) = ((8 * g : Nat) : Int) := by rw [w64 (by omega) (by omega)]; omega
  have e2 : IntKind.u64.wrap (wrap64 (wrap64 (Int.tdiv (wrap64 (2 * ((8 * g : Nat) : Int))) 8) + 1)) = ((2 * g + 1 : Nat) : Int) := by
    rw [w64 (x := 2 * ((8 * g : Nat) : Int)) (by omega) (by omega), show (2 * ((8 * g : Nat) : Int)) = ((16 * g : Nat) : Int) by omega, show (8 : Int) = ((8 : Nat) : Int) from rfl, tdiv_nat, w64 (x := ((16 * g / 8 : Nat) : Int)) (by omega) (by omega), w64 (by omega) (by omega), wu64 (by omega) (by omega)]
    omega
  have hpl := packed_chunk_length hw hL hlen i g
  have hpt := putN_10 (n := 2 * g + 1) (by omega)
  refine Ev.congr (f := fun k => (bits_Pack.f k (ints (chunkN L i g)) (w : Int)).bind fun bt => ((varint_Put.f k [] ((2 * g + 1 : Nat) : Int)).bind fun t => (if (ints out).length + t.length < 140737488355328 then ((some (ints out ++ t)).bind fun y => (if y.length + bt.1.length < 140737488355328 then runs_Encode.l0 k (ints L) (w : Int) (y ++ bt.1) ((i + 8 * g : Nat) : Int) else none)) else none))) (fun k => ?_) ?_
  · rw [encFin, e1, if_pos (by omega), Int.toNat_natCast, if_pos (by omega), Option.bind_some, if_pos (by omega), if_pos (by rw [ints_length]; omega), copy_52.f, Option.bind_some, Int.toNat_natCast, ints_drop, copy_chunk, List.length_replicate, e2]
  · refine Ev.bind (pack_ev (Nat.le_trans hw (by decide)) (chunkN_lt (Nat.two_pow_pos w) hL i g) (by rw [chunkN_length]; omega)) (Ev.bind (put_ev (by omega)) ?_)
    refine Ev.congr (f := fun k => runs_Encode.l0 k (ints L) (w : Int) (ints (out ++ putN (2 * g + 1) ++ packed (chunkN L i g) w)) ((i + 8 * g : Nat) : Int)) (fun k => ?_) hr
    rw [if_pos (by rw [ints_length, ints_length]; omega), Option.bind_some, if_pos (by rw [List.length_append, ints_length, ints_length, ints_length]; omega), ints_append, ints_append]
theorem runs_l2 {i : Nat} {out : List Nat} (hi : i < L.length) (hout : out.length ≤ 50000000) {r : List Int × Int} : ∀ d e g, L.length - e ≤ d → e = i + 8 * g → 1 ≤ g → 8 * g ≤ L.length + 7 →
    Ev (fun k => runs_Encode.l0 k (ints L) (w : Int) (ints (out ++ putN (2 * (g + grpN L e) + 1) ++ packed (chunkN L i (g + grpN L e)) w)) ((i + 8 * (g + grpN L e) : Nat) : Int)) r →
    Ev (fun k => runs_Encode.l2 k (ints L) (w : Int) (ints out) (i : Int) (e : Int)) r := by
  intro d
  induction d using Nat.strongRecOn with
  | _ d ih =>
    intro e g hd he hg hg2 hr
    by_cases h1 : e < L.length
    · by_cases h2 : sameN L e < 8
      · rw [grpN_go ⟨h1, h2⟩, show g + (grpN L (e + 8) + 1) = g + 1 + grpN L (e + 8) by omega] at hr
        refine Ev.step (f := fun k => (runs_same.f k (ints L) (e : Int)).bind fun t => if t < 8 then runs_Encode.l2 k (ints L) (w : Int) (ints out) (i : Int) (wrap64 ((e : Int) + 8)) else encFin k (ints L) (w : Int) (ints out) (i : Int) (e : Int)) (fun k => ?_) ?_
        · rw [runs_Encode.l2, if_pos (by rw [ints_length]; omega)]
          rfl
        · refine Ev.bind (same_ev L e h1 (by omega)) ?_
          refine Ev.congr (f := fun k => runs_Encode.l2 k (ints L) (w : Int) (ints out) (i : Int) ((e + 8 : Nat) : Int)) (fun k => ?_) (ih (L.length - (e + 8)) (by omega) (e + 8) (g + 1) (Nat.le_refl _) (by omega) (by omega) (by omega) hr)
          rw [if_pos (by omega), w64 (by omega) (by omega)]
          rfl
      · rw [grpN_no (by omega), Nat.add_zero] at hr
        refine Ev.step (f := fun k => (runs_same.f k (ints L) (e : Int)).bind fun t => if t < 8 then runs_Encode.l2 k (ints L) (w : Int) (ints out) (i : Int) (wrap64 ((e : Int) + 8)) else encFin k (ints L) (w : Int) (ints out) (i : Int) (e : Int)) (fun k => ?_) ?_
        · rw [runs_Encode.l2, if_pos (by rw [ints_length]; omega)]
          rfl
        · refine Ev.bind (same_ev L e h1 (by omega)) ?_
          refine Ev.congr (f := fun k => encFin k (ints L) (w : Int) (ints out) (i : Int) ((i + 8 * g : Nat) : Int)) (fun k => ?_) (fin_ev hw hL hlen hi hg hg2 hout hr)
          rw [if_neg (by omega), he]
    · rw [grpN_no (by omega), Nat.add_zero] at hr
      refine Ev.step (f := fun k => encFin k (ints L) (w : Int) (ints out) (i : Int) ((i + 8 * g : Nat) : Int)) (fun k => ?_) (fin_ev hw hL hlen hi hg hg2 hout hr)
      rw [runs_Encode.l2, if_neg (by rw [ints_length]; omega), ← he]
      rfl
theorem runs_l0 : ∀ d i out, L.length - i ≤ d → out.length ≤ 42 * i → i ≤ L.length + 8 → Ev (fun k => runs_Encode.l0 k (ints L) (w : Int) (ints out) (i : Int)) (ints (encS L w i out), 0) := by
  intro d
  induction d using Nat.strongRecOn with
  | _ d ih =>
    intro i out hd hout hi2
    by_cases hi : i < L.length
    · by_cases h8 : 8 ≤ sameN L i
      · have hs := sameN_le L i
        have hpt := putN_10 (n := 2 * sameN L i) (by omega)
        rw [encS_run hi h8]
        refine Ev.step (f := fun k => (runs_same.f k (ints L) (i : Int)).bind fun t => if t ≥ 8 then ((varint_Put.f k ([] : List Int) (IntKind.u64.wrap (wrap64 (2 * t)))).bind fun t125 => if (ints out).length + t125.length < 140737488355328 then runs_Encode.l1 k (ints L) (w : Int) (ints out ++ t125) (i : Int) t (wrap64 (Int.tdiv (wrap64 ((w : Int) + 7)) 8)) 0 else none) else runs_Encode.l2 k (ints L) (w : Int) (ints out) (i : Int) (wrap64 ((i : Int) + 8))) (fun k => by rw [runs_Encode.l0, if_pos (by rw [ints_length]; omega)]) ?_
        refine Ev.bind (same_ev L i hi (by omega)) ?_
        refine Ev.congr (f := fun k => (varint_Put.f k ([] : List Int) ((2 * sameN L i : Nat) : Int)).bind fun t125 => if (ints out).length + t125.length < 140737488355328 then runs_Encode.l1 k (ints L) (w : Int) (ints out ++ t125) (i : Int) (sameN L i : Int) (((w + 7) / 8 : Nat) : Int) 0 else none) (fun k => ?_) ?_
        · rw [if_pos (by omega), w64 (x := 2 * (sameN L i : Int)) (by omega) (by omega), wu64 (by omega) (by omega), w64 (x := (w : Int) + 7) (by omega) (by omega), show (w : Int) + 7 = ((w + 7 : Nat) : Int) by omega, show (8 : Int) = ((8 : Nat) : Int) from rfl, tdiv_nat, w64 (by omega) (by omega)]
          rfl
        · refine Ev.bind (put_ev (by omega)) ?_
          refine Ev.congr (f := fun k => runs_Encode.l1 k (ints L) (w : Int) (ints (out ++ putN (2 * sameN L i) ++ fewN (L.getD i 0) 0)) (i : Int) (sameN L i : Int) (((w + 7) / 8 : Nat) : Int) ((0 : Nat) : Int)) (fun k => ?_) ?_
          · rw [if_pos (by rw [ints_length, ints_length]; omega), ints_append]
            simp [fewN]
          · refine run_l L w i (sameN L i) hi (by omega) ((w + 7) / 8) (by omega) (by omega) _ (by rw [List.length_append]; omega) _ ?_ _ 0 rfl (by omega)
            exact ih (L.length - (i + sameN L i)) (by omega) (i + sameN L i) _ (Nat.le_refl _) (by rw [List.length_append, List.length_append, fewN_length]; omega) (by omega)
      · rw [encS_grp hi h8]
        have hgl := grpN_le L _ (i + 8) (Nat.le_refl _)
        refine Ev.step (f := fun k => (runs_same.f k (ints L) (i : Int)).bind fun t => if t ≥ 8 then ((varint_Put.f k ([] : List Int) (IntKind.u64.wrap (wrap64 (2 * t)))).bind fun t125 => if (ints out).length + t125.length < 140737488355328 then runs_Encode.l1 k (ints L) (w : Int) (ints out ++ t125) (i : Int) t (wrap64 (Int.tdiv (wrap64 ((w : Int) + 7)) 8)) 0 else none) else runs_Encode.l2 k (ints L) (w : Int) (ints out) (i : Int) (wrap64 ((i : Int) + 8))) (fun k => by rw [runs_Encode.l0, if_pos (by rw [ints_length]; omega)]) ?_
        refine Ev.bind (same_ev L i hi (by omega)) ?_
        refine Ev.congr (f := fun k => runs_Encode.l2 k (ints L) (w : Int) (ints out) (i : Int) ((i + 8 : Nat) : Int)) (fun k => ?_) ?_
        · rw [if_neg (by omega), w64 (by omega) (by omega)]
          rfl
        · refine runs_l2 hw hL hlen hi (by omega) _ (i + 8) 1 (Nat.le_refl _) (by omega) (by omega) (by omega) ?_
          rw [Nat.add_comm 1]
          have hpl := packed_chunk_length hw hL hlen i (grpN L (i + 8) + 1)
          have hpt := putN_10 (n := 2 * (grpN L (i + 8) + 1) + 1) (by omega)
          exact ih (L.length - (i + 8 * (grpN L (i + 8) + 1))) (by omega) _ _ (Nat.le_refl _) (by rw [List.length_append, List.length_append]; omega) (by omega)
    · rw [encS_end (by omega)]
      refine Ev.step (f := fun _ => some (ints out, 0)) (fun k => ?_) (Ev.now _)
      rw [runs_Encode.l0, if_neg (by rw [ints_length]; omega)]
end

end Go.Proofs.Ytodadonpfcefbaa.QDelsReads
