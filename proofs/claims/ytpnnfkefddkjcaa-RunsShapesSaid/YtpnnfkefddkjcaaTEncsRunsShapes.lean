/- runs.Encode and the document's Encode come to the same. -/
import Derived.Test.YtpnnfkefddkjcaaTPutsRunsShapes
import Derived.Test.YtpnnfkefddkjcaaTRefBitsRunsShapes
namespace Go.Proofs.Ytpnnfkefddkjcaa.QRunsShapes
open Go.RowKit Go.Proofs.YtpnnfkefddkjcaaW.PrintWords Go.Proofs.YtpnnfkefddkjcaaW.PrintLast Go.Proofs.YtpnnfkefddkjcaaW.PrintMore Go.Proofs.Ytpnnfkefddkjcaa.Base
set_option linter.unusedVariables false
set_option linter.unusedSimpArgs false
set_option linter.unusedSectionVars false

/-! ### a number in few bytes -/
def fewN (n c : Nat) : List Nat := (List.range c).map fun k => (n >>> (8 * k)) % 256
theorem fewN_length (n c : Nat) : (fewN n c).length = c := by simp [fewN]
theorem fewN_succ (n c : Nat) : fewN n (c + 1) = fewN n c ++ [(n >>> (8 * c)) % 256] := by simp [fewN, List.range_succ]
theorem fewN_lt (n c : Nat) : ∀ x ∈ fewN n c, x < 256 := by
  intro x hx
  obtain ⟨k, _, rfl⟩ := List.mem_map.1 hx
  exact Nat.mod_lt _ (by decide)
theorem shr_byte {n : Nat} {j : Nat} (hj : j ≤ 64) : (shr .u64 (n : Int) (j : Int)) % 256 = (((n >>> j) % 256 : Nat) : Int) := by
  rw [shr_nat (show j ≤ IntKind.u64.bits from hj)]
  omega
/-- The program's own loop, to what follows behind it. -/
theorem run_l (L : List Nat) (w i n : Nat) (hi : i < L.length) (hb : L.length < 9223372036854775807) (c : Nat) (hc : c ≤ 8) (hn : i + n < 9223372036854775807) (A : List Nat) (hA : A.length + 8 < 140737488355328) (r : List Int × Int)
    (hr : Ev (fun k => runs_Encode.l0 k (ints L) (w : Int) (ints (A ++ fewN (L.getD i 0) c)) ((i + n : Nat) : Int)) r) (d : Nat) : ∀ j, c - j = d → j ≤ c →
    Ev (fun k => runs_Encode.l1 k (ints L) (w : Int) (ints (A ++ fewN (L.getD i 0) j)) (i : Int) (n : Int) (c : Int) (j : Int)) r := by
  induction d with
  | zero =>
    intro j hd hj
    obtain rfl : j = c := by omega
    refine Ev.step (f := fun k => runs_Encode.l0 k (ints L) (w : Int) (ints (A ++ fewN (L.getD i 0) j)) ((i + n : Nat) : Int)) (fun k => ?_) hr
    rw [runs_Encode.l1, if_neg (by omega), w64 (by omega) (by omega)]
    rfl
  | succ d ih =>
    intro j hd hj
    refine Ev.step (f := fun k => runs_Encode.l1 k (ints L) (w : Int) (ints (A ++ fewN (L.getD i 0) (j + 1))) (i : Int) (n : Int) (c : Int) ((j + 1 : Nat) : Int)) (fun k => ?_) (ih (j + 1) (by omega) (by omega))
    have e8 : wrap64 (8 * (j : Int)) = ((8 * j : Nat) : Int) := by rw [w64 (by omega) (by omega)]; omega
    rw [runs_Encode.l1, if_pos (by omega), if_pos (by omega), if_pos (by rw [ints_length]; omega), e8, if_pos (by omega), if_pos (by rw [ints_length, List.length_append, fewN_length]; omega), rd_ints, shr_byte (by omega), succ64 (by omega)]
    rw [fewN_succ, ← List.append_assoc, ← ints_append (A ++ fewN (L.getD i 0) j)]
    rfl
/-! ### the groups -/
/-- How many groups of eight more there are from a place on. -/
def grpN (L : List Nat) (e : Nat) : Nat := if h : e < L.length ∧ sameN L e < 8 then grpN L (e + 8) + 1 else 0
termination_by L.length - e
decreasing_by omega
theorem grpN_go {L : List Nat} {e : Nat} (h : e < L.length ∧ sameN L e < 8) : grpN L e = grpN L (e + 8) + 1 := by rw [grpN, dif_pos h]
theorem grpN_no {L : List Nat} {e : Nat} (h : ¬ (e < L.length ∧ sameN L e < 8)) : grpN L e = 0 := by rw [grpN, dif_neg h]
theorem grpN_le (L : List Nat) : ∀ d e, L.length - e ≤ d → e + 8 * grpN L e ≤ max e (L.length + 7) := by
  intro d
  induction d using Nat.strongRecOn with
  | _ d ih =>
    intro e hd
    by_cases h : e < L.length ∧ sameN L e < 8
    · rw [grpN_go h]
      have := ih (L.length - (e + 8)) (by omega) (e + 8) (by omega)
      omega
    · rw [grpN_no h]
      omega
/-- The numbers of some groups, zeros behind. -/
def chunkN (L : List Nat) (i g : Nat) : List Nat := (L.drop i).take (8 * g) ++ List.replicate (8 * g - (L.length - i)) 0
theorem chunkN_length (L : List Nat) (i g : Nat) : (chunkN L i g).length = 8 * g := by
  rw [chunkN, List.length_append, List.length_take, List.length_drop, List.length_replicate]
  omega
theorem chunkN_lt {L : List Nat} {B : Nat} (hB : 0 < B) (h : ∀ x ∈ L, x < B) (i g : Nat) : ∀ x ∈ chunkN L i g, x < B := by
  intro x hx
  rcases List.mem_append.1 hx with hx | hx
  · exact h x (List.mem_of_mem_drop (List.mem_of_mem_take hx))
  · rw [List.eq_of_mem_replicate hx]
    exact hB
theorem copy_chunk (L : List Nat) (i g : Nat) : copyL_23 (List.replicate (8 * g) (0 : Int)) (ints (L.drop i)) = ints (chunkN L i g) := by
  unfold copyL_23 chunkN
  have hm : Nat.min (ints (L.drop i)).length (List.replicate (8 * g) (0 : Int)).length = min (L.length - i) (8 * g) := by rw [ints_length, List.length_drop, List.length_replicate]
  rw [hm, ints_take, show List.replicate (8 * g) (0 : Int) = ints (List.replicate (8 * g) 0) from ints_replicate _ 0, ints_drop, ints_append, List.drop_replicate]
  congr 2
  · rcases Nat.le_total (L.length - i) (8 * g) with h | h
    · rw [Nat.min_eq_left h, List.take_of_length_le (by rw [List.length_drop]; omega)]; exact (List.take_of_length_le (by rw [List.length_drop]; omega)).symm
    · rw [Nat.min_eq_right h]
  · congr 1
    omega
/-- What a list is written as, from a place on. -/
def encS (L : List Nat) (w i : Nat) (out : List Nat) : List Nat :=
  if h : i < L.length then
    (if h8 : 8 ≤ sameN L i then encS L w (i + sameN L i) (out ++ putN (2 * sameN L i) ++ fewN (L.getD i 0) ((w + 7) / 8))
    else encS L w (i + 8 * (grpN L (i + 8) + 1)) (out ++ putN (2 * (grpN L (i + 8) + 1) + 1) ++ packed (chunkN L i (grpN L (i + 8) + 1)) w))
  else out
termination_by L.length - i
decreasing_by all_goals omega
theorem encS_end {L : List Nat} {w i : Nat} {out : List Nat} (h : L.length ≤ i) : encS L w i out = out := by rw [encS, dif_neg (by omega)]
theorem encS_run {L : List Nat} {w i : Nat} {out : List Nat} (h : i < L.length) (h8 : 8 ≤ sameN L i) : encS L w i out = encS L w (i + sameN L i) (out ++ putN (2 * sameN L i) ++ fewN (L.getD i 0) ((w + 7) / 8)) := by
  rw [encS, dif_pos h, dif_pos h8]
theorem encS_grp {L : List Nat} {w i : Nat} {out : List Nat} (h : i < L.length) (h8 : ¬ 8 ≤ sameN L i) : encS L w i out = encS L w (i + 8 * (grpN L (i + 8) + 1)) (out ++ putN (2 * (grpN L (i + 8) + 1) + 1) ++ packed (chunkN L i (grpN L (i + 8) + 1)) w) := by
  rw [encS, dif_pos h, dif_neg h8]

/-! ### runs.Encode -/
def encFin (k : Nat) (x0 : List Int) (x1 : Int) (x6 : List Int) (x7 x10 : Int) : Option (List Int × Int) :=
  (if 0 ≤ (wrap64 (x10 - x7)) then (if (wrap64 (x10 - x7) : Int).toNat ≤ 35184372088832 then ((some (List.replicate (wrap64 (x10 - x7) : Int).toNat 0 : List Int)).bind fun y136 => (if 0 ≤ x7 then (if x7 ≤ (x0.length : Int) then ((copy_23.f y136 (x0.drop (x7 : Int).toNat)).bind fun bt140 => ((bits_Pack.f k bt140.2 x1).bind fun bt142 => ((varint_Put.f k ([] : List Int) (IntKind.u64.wrap (wrap64 ((wrap64 (Int.tdiv (wrap64 (2 * (y136.length : Int))) 8)) + 1)))).bind fun t146 => (if x6.length + t146.length < 140737488355328 then ((some (x6 ++ t146 : List Int)).bind fun y149 => (if y149.length + bt142.1.length < 140737488355328 then (runs_Encode.l0 k x0 x1 (y149 ++ bt142.1) x10) else (none))) else (none))))) else (none)) else (none))) else (none)) else (none))
section
variable {L : List Nat} {w : Nat} (hw : w ≤ 32) (hL : ∀ x ∈ L, x < 2 ^ w) (hlen : L.length ≤ 1048600)
include hw hL hlen
theorem packed_chunk_length (i g : Nat) : (packed (chunkN L i g) w).length ≤ 32 * g := by
  rw [packed_length, chunkN_length]
  have : 8 * g * w ≤ 8 * g * 32 := Nat.mul_le_mul_left _ hw
  omega
theorem fin_ev {i g : Nat} {out : List Nat} (hi : i < L.length) (hg : 1 ≤ g) (hg2 : 8 * g ≤ L.length + 7) (hout : out.length ≤ 50000000) {r : List Int × Int}
    (hr : Ev (fun k => runs_Encode.l0 k (ints L) (w : Int) (ints (out ++ putN (2 * g + 1) ++ packed (chunkN L i g) w)) ((i + 8 * g : Nat) : Int)) r) :
    Ev (fun k => encFin k (ints L) (w : Int) (ints out) (i : Int) ((i + 8 * g : Nat) : Int)) r := by
  have e1 : wrap64 (((i + 8 * g : Nat) : Int) - (i : Int)) = ((8 * g : Nat) : Int) := by rw [w64 (by omega) (by omega)]; omega
  have e2 : IntKind.u64.wrap (wrap64 (wrap64 (Int.tdiv (wrap64 (2 * ((8 * g : Nat) : Int))) 8) + 1)) = ((2 * g + 1 : Nat) : Int) := by
    rw [w64 (x := 2 * ((8 * g : Nat) : Int)) (by omega) (by omega), show (2 * ((8 * g : Nat) : Int)) = ((16 * g : Nat) : Int) by omega, show (8 : Int) = ((8 : Nat) : Int) from rfl, tdiv_nat, w64 (x := ((16 * g / 8 : Nat) : Int)) (by omega) (by omega), w64 (by omega) (by omega), wu64 (by omega) (by omega)]
    omega
  have hpl := packed_chunk_length hw hL hlen i g
  have hpt := putN_10 (n := 2 * g + 1) (by omega)
  refine Ev.congr (f := fun k => (bits_Pack.f k (ints (chunkN L i g)) (w : Int)).bind fun bt => ((varint_Put.f k [] ((2 * g + 1 : Nat) : Int)).bind fun t => (if (ints out).length + t.length < 140737488355328 then ((some (ints out ++ t)).bind fun y => (if y.length + bt.1.length < 140737488355328 then runs_Encode.l0 k (ints L) (w : Int) (y ++ bt.1) ((i + 8 * g : Nat) : Int) else none)) else none))) (fun k => ?_) ?_
  · rw [encFin, e1, if_pos (by omega), Int.toNat_natCast, if_pos (by omega), Option.bind_some, if_pos (by omega), if_pos (by rw [ints_length]; omega), copy_23.f, Option.bind_some, Int.toNat_natCast, ints_drop, copy_chunk, List.length_replicate, e2]
  · refine Ev.bind (pack_ev (Nat.le_trans hw (by decide)) (chunkN_lt (Nat.two_pow_pos w) hL i g) (by rw [chunkN_length]; omega)) (Ev.bind (put_ev (by omega)) ?_)
    refine Ev.congr (f := fun k => runs_Encode.l0 k (ints L) (w : Int) (ints (out ++ putN (2 * g + 1) ++ packed (chunkN L i g) w)) ((i + 8 * g : Nat) : Int)) (fun k => ?_) hr
    rw [if_pos (by rw [ints_length, ints_length]; omega), Option.bind_some, if_pos (by rw [List.length_append, ints_length, ints_length, ints_length]; omega), ints_append, ints_append]
theorem runs_l2 {i : Nat} {out : List Nat} (hi : i < L.length) (hout : out.length ≤ 50000000) {r : List Int × Int} : ∀ d e g, L.length - e ≤ d → e = i + 8 * g → 1 ≤ g → 8 * g ≤ L.length + 7 →
    Ev (fun k => runs_Encode.l0 k (ints L) (w : Int) (ints (out ++ putN (2 * (g + grpN L e) + 1) ++ packed (chunkN L i (g + grpN L e)) w)) ((i + 8 * (g + grpN L e) : Nat) : Int)) r →
    Ev (fun k => runs_Encode.l2 k (ints L) (w : Int) (ints out) (i : Int) (e : Int)) r := by
  intro d
  induction d using Nat.strongRecOn with
  | _ d ih =>
    intro e g hd he hg hg2 hr
    by_cases h1 : e < L.length
    · by_cases h2 : sameN L e < 8
      · rw [grpN_go ⟨h1, h2⟩, show g + (grpN L (e + 8) + 1) = g + 1 + grpN L (e + 8) by omega] at hr
        refine Ev.step (f := fun k => (runs_same.f k (ints L) (e : Int)).bind fun t => if t < 8 then runs_Encode.l2 k (ints L) (w : Int) (ints out) (i : Int) (wrap64 ((e : Int) + 8)) else encFin k (ints L) (w : Int) (ints out) (i : Int) (e : Int)) (fun k => ?_) ?_
        · rw [runs_Encode.l2, if_pos (by rw [ints_length]; omega)]
          rfl
        · refine Ev.bind (same_ev L e h1 (by omega)) ?_
          refine Ev.congr (f := fun k => runs_Encode.l2 k (ints L) (w : Int) (ints out) (i : Int) ((e + 8 : Nat) : Int)) (fun k => ?_) (ih (L.length - (e + 8)) (by omega) (e + 8) (g + 1) (Nat.le_refl _) (by omega) (by omega) (by omega) hr)
          rw [if_pos (by omega), w64 (by omega) (by omega)]
          rfl
      · rw [grpN_no (by omega), Nat.add_zero] at hr
        refine Ev.step (f := fun k => (runs_same.f k (ints L) (e : Int)).bind fun t => if t < 8 then runs_Encode.l2 k (ints L) (w : Int) (ints out) (i : Int) (wrap64 ((e : Int) + 8)) else encFin k (ints L) (w : Int) (ints out) (i : Int) (e : Int)) (fun k => ?_) ?_
        · rw [runs_Encode.l2, if_pos (by rw [ints_length]; omega)]
          rfl
        · refine Ev.bind (same_ev L e h1 (by omega)) ?_
          refine Ev.congr (f := fun k => encFin k (ints L) (w : Int) (ints out) (i : Int) ((i + 8 * g : Nat) : Int)) (fun k => ?_) (fin_ev hw hL hlen hi hg hg2 hout hr)
          rw [if_neg (by omega), he]
    · rw [grpN_no (by omega), Nat.add_zero] at hr
      refine Ev.step (f := fun k => encFin k (ints L) (w : Int) (ints out) (i : Int) ((i + 8 * g : Nat) : Int)) (fun k => ?_) (fin_ev hw hL hlen hi hg hg2 hout hr)
      rw [runs_Encode.l2, if_neg (by rw [ints_length]; omega), ← he]
      rfl
theorem runs_l0 : ∀ d i out, L.length - i ≤ d → out.length ≤ 42 * i → i ≤ L.length + 8 → Ev (fun k => runs_Encode.l0 k (ints L) (w : Int) (ints out) (i : Int)) (ints (encS L w i out), 0) := by
  intro d
  induction d using Nat.strongRecOn with
  | _ d ih =>
    intro i out hd hout hi2
    by_cases hi : i < L.length
    · by_cases h8 : 8 ≤ sameN L i
      · have hs := sameN_le L i
        have hpt := putN_10 (n := 2 * sameN L i) (by omega)
        rw [encS_run hi h8]
        refine Ev.step (f := fun k => (runs_same.f k (ints L) (i : Int)).bind fun t => if t ≥ 8 then ((varint_Put.f k ([] : List Int) (IntKind.u64.wrap (wrap64 (2 * t)))).bind fun t125 => if (ints out).length + t125.length < 140737488355328 then runs_Encode.l1 k (ints L) (w : Int) (ints out ++ t125) (i : Int) t (wrap64 (Int.tdiv (wrap64 ((w : Int) + 7)) 8)) 0 else none) else runs_Encode.l2 k (ints L) (w : Int) (ints out) (i : Int) (wrap64 ((i : Int) + 8))) (fun k => by rw [runs_Encode.l0, if_pos (by rw [ints_length]; omega)]) ?_
        refine Ev.bind (same_ev L i hi (by omega)) ?_
        refine Ev.congr (f := fun k => (varint_Put.f k ([] : List Int) ((2 * sameN L i : Nat) : Int)).bind fun t125 => if (ints out).length + t125.length < 140737488355328 then runs_Encode.l1 k (ints L) (w : Int) (ints out ++ t125) (i : Int) (sameN L i : Int) (((w + 7) / 8 : Nat) : Int) 0 else none) (fun k => ?_) ?_
        · rw [if_pos (by omega), w64 (x := 2 * (sameN L i : Int)) (by omega) (by omega), wu64 (by omega) (by omega), w64 (x := (w : Int) + 7) (by omega) (by omega), show (w : Int) + 7 = ((w + 7 : Nat) : Int) by omega, show (8 : Int) = ((8 : Nat) : Int) from rfl, tdiv_nat, w64 (by omega) (by omega)]
          rfl
        · refine Ev.bind (put_ev (by omega)) ?_
          refine Ev.congr (f := fun k => runs_Encode.l1 k (ints L) (w : Int) (ints (out ++ putN (2 * sameN L i) ++ fewN (L.getD i 0) 0)) (i : Int) (sameN L i : Int) (((w + 7) / 8 : Nat) : Int) ((0 : Nat) : Int)) (fun k => ?_) ?_
          · rw [if_pos (by rw [ints_length, ints_length]; omega), ints_append]
            simp [fewN]
          · refine run_l L w i (sameN L i) hi (by omega) ((w + 7) / 8) (by omega) (by omega) _ (by rw [List.length_append]; omega) _ ?_ _ 0 rfl (by omega)
            exact ih (L.length - (i + sameN L i)) (by omega) (i + sameN L i) _ (Nat.le_refl _) (by rw [List.length_append, List.length_append, fewN_length]; omega) (by omega)
      · rw [encS_grp hi h8]
        have hgl := grpN_le L _ (i + 8) (Nat.le_refl _)
        refine Ev.step (f := fun k => (runs_same.f k (ints L) (i : Int)).bind fun t => if t ≥ 8 then ((varint_Put.f k ([] : List Int) (IntKind.u64.wrap (wrap64 (2 * t)))).bind fun t125 => if (ints out).length + t125.length < 140737488355328 then runs_Encode.l1 k (ints L) (w : Int) (ints out ++ t125) (i : Int) t (wrap64 (Int.tdiv (wrap64 ((w : Int) + 7)) 8)) 0 else none) else runs_Encode.l2 k (ints L) (w : Int) (ints out) (i : Int) (wrap64 ((i : Int) + 8))) (fun k => by rw [runs_Encode.l0, if_pos (by rw [ints_length]; omega)]) ?_
        refine Ev.bind (same_ev L i hi (by omega)) ?_
        refine Ev.congr (f := fun k => runs_Encode.l2 k (ints L) (w : Int) (ints out) (i : Int) ((i + 8 : Nat) : Int)) (fun k => ?_) ?_
        · rw [if_neg (by omega), w64 (by omega) (by omega)]
          rfl
        · refine runs_l2 hw hL hlen hi (by omega) _ (i + 8) 1 (Nat.le_refl _) (by omega) (by omega) (by omega) ?_
          rw [Nat.add_comm 1]
          have hpl := packed_chunk_length hw hL hlen i (grpN L (i + 8) + 1)
          have hpt := putN_10 (n := 2 * (grpN L (i + 8) + 1) + 1) (by omega)
          exact ih (L.length - (i + 8 * (grpN L (i + 8) + 1))) (by omega) _ _ (Nat.le_refl _) (by rw [List.length_append, List.length_append]; omega) (by omega)
    · rw [encS_end (by omega)]
      refine Ev.step (f := fun _ => some (ints out, 0)) (fun k => ?_) (Ev.now _)
      rw [runs_Encode.l0, if_neg (by rw [ints_length]; omega)]
end

end Go.Proofs.Ytpnnfkefddkjcaa.QRunsShapes

namespace Go.Proofs.Ytpnnfkefddkjcaa.QRunsShapes
open Go.RowKit Go.Proofs.YtpnnfkefddkjcaaW.PrintWords Go.Proofs.YtpnnfkefddkjcaaW.PrintLast Go.Proofs.YtpnnfkefddkjcaaW.PrintMore Go.Proofs.Ytpnnfkefddkjcaa.Base
set_option linter.unusedVariables false
set_option linter.unusedSimpArgs false
set_option linter.unusedSectionVars false

/-! ### both -/
def enc (L : List Nat) (w : Int) : List Nat × Int := if w < 0 ∨ 32 < w ∨ w < (wd L : Int) then ([], 15) else (encS L w.toNat 0 [], 0)
theorem enc_ev {L : List Nat} (hL : ∀ x ∈ L, x < 2 ^ 64) (hlen : L.length ≤ 1048600) (w : Int) : Ev (fun k => runs_Encode.f k (ints L) w) (ints (enc L w).1, (enc L w).2) := by
  have hbad : Ev (fun k => runs_Encode.j0 k (ints L) w true) (([] : List Int), 15) := Ev.step (f := fun _ => some (([] : List Int), 15)) (fun k => by rw [runs_Encode.j0, if_pos rfl]) (Ev.now _)
  unfold enc
  by_cases h1 : w < 0
  · rw [if_pos (.inl h1)]
    exact Ev.congr (fun k => by rw [runs_Encode.f, if_pos h1]) hbad
  by_cases h2 : w > 32
  · rw [if_pos (.inr (.inl h2))]
    exact Ev.congr (fun k => by rw [runs_Encode.f, if_neg h1, if_pos h2]) hbad
  refine Ev.congr (fun k => by rw [runs_Encode.f, if_neg h1, if_neg h2]) (Ev.bind (width_ev hL (by omega)) ?_)
  by_cases h3 : w < (wd L : Int)
  · rw [if_pos (.inr (.inr h3)), decide_eq_true h3]
    exact hbad
  · rw [if_neg (by omega), decide_eq_false h3]
    obtain ⟨v, rfl⟩ := Int.eq_ofNat_of_zero_le (show 0 ≤ w by omega)
    refine Ev.step (f := fun k => runs_Encode.l0 k (ints L) (v : Int) (ints []) ((0 : Nat) : Int)) (fun k => by rw [runs_Encode.j0, if_neg (by decide)]; rfl) ?_
    exact runs_l0 (by omega) ((wd_le L v).1 (by omega)) hlen _ 0 [] (Nat.le_refl _) (by simp) (by omega)

end Go.Proofs.Ytpnnfkefddkjcaa.QRunsShapes

namespace Go.Proofs.Ytpnnfkefddkjcaa.QRunsShapes
open Go.RowKit Go.Proofs.YtpnnfkefddkjcaaW.PrintWords Go.Proofs.YtpnnfkefddkjcaaW.PrintLast Go.Proofs.YtpnnfkefddkjcaaW.PrintMore Go.Proofs.Ytpnnfkefddkjcaa.Base
set_option linter.unusedVariables false
set_option linter.unusedSimpArgs false
set_option linter.unusedSectionVars false

theorem few_l (n c w : Nat) (hw : w ≤ 64) (hc : c = (w + 7) / 8) (d : Nat) : ∀ j, c - j = d → j ≤ c → Ev (fun k => columbariumref5_few.l0 k (n : Int) (w : Int) (ints (fewN n j)) ((8 * j : Nat) : Int)) (ints (fewN n c)) := by
  induction d with
  | zero =>
    intro j hd hj
    obtain rfl : j = c := by omega
    refine Ev.step (f := fun _ => some (ints (fewN n j))) (fun k => ?_) (Ev.now _)
    rw [columbariumref5_few.l0, if_neg (by omega)]
  | succ d ih =>
    intro j hd hj
    refine Ev.step (f := fun k => columbariumref5_few.l0 k (n : Int) (w : Int) (ints (fewN n (j + 1))) ((8 * (j + 1) : Nat) : Int)) (fun k => ?_) (ih (j + 1) (by omega) (by omega))
    rw [columbariumref5_few.l0, if_pos (by omega), wu64 (by omega) (by omega), if_pos (by omega), if_pos (by rw [ints_length, fewN_length]; omega), shr_byte (by omega), w64 (by omega) (by omega)]
    rw [fewN_succ, ← ints_append]
    rfl
theorem few_ev (n w : Nat) (hw : w ≤ 64) : Ev (fun k => columbariumref5_few.f k (n : Int) (w : Int)) (ints (fewN n ((w + 7) / 8))) :=
  Ev.congr (fun k => by rw [columbariumref5_few.f]; rfl) (few_l n _ w hw rfl _ 0 rfl (by omega))

section
variable {L : List Nat} {w : Nat} (hw : w ≤ 32) (hL : ∀ x ∈ L, x < 2 ^ w) (hlen : L.length ≤ 1048600)
include hw hL hlen
theorem take_drop_min (i e : Nat) (hi : i ≤ L.length) (he : i ≤ e) : (L.take (min e L.length)).drop i = (L.drop i).take (e - i) := by
  rw [List.drop_take]
  rcases Nat.le_total e L.length with h | h
  · rw [Nat.min_eq_left h]
  · rw [Nat.min_eq_right h, List.take_of_length_le (show (L.drop i).length ≤ L.length - i by rw [List.length_drop]; omega), List.take_of_length_le (by rw [List.length_drop]; omega)]
/-- Zeros are put behind, till the groups are full. -/
theorem ref_l2 {i g : Nat} {out : List Nat} (hi : i < L.length) (hg : 1 ≤ g) (hg2 : 8 * g ≤ L.length + 7) (hout : out.length ≤ 50000000) (at_ : Nat) {r : List Int × Int}
    (hr : Ev (fun k => columbariumref5_Encode.l0 k (ints L) (w : Int) (ints (out ++ putN (2 * g + 1) ++ packed (chunkN L i g) w)) (at_ : Int)) r) (d : Nat) : ∀ j, 8 * g - (L.length - i) - j = d → j ≤ 8 * g - (L.length - i) →
    Ev (fun k => columbariumref5_Encode.l2 k (ints L) (w : Int) (ints out) (at_ : Int) (g : Int) (ints ((L.drop i).take (8 * g) ++ List.replicate j 0))) r := by
  have hpl := packed_chunk_length hw hL hlen i g
  have hpt := putN_10 (n := 2 * g + 1) (by omega)
  have hl : ∀ j, ((L.drop i).take (8 * g) ++ List.replicate j 0).length = min (8 * g) (L.length - i) + j := fun j => by rw [List.length_append, List.length_take, List.length_drop, List.length_replicate]
  induction d with
  | zero =>
    intro j hd hj
    obtain rfl : j = 8 * g - (L.length - i) := by omega
    have hlj := hl (8 * g - (L.length - i))
    rw [show (L.drop i).take (8 * g) ++ List.replicate (8 * g - (L.length - i)) 0 = chunkN L i g from rfl] at hlj ⊢
    refine Ev.step (f := fun k => (columbariumref3_Pack.f k (ints (chunkN L i g)) (w : Int)).bind fun bt => (columbariumref1_Put.f k (ints out) ((2 * g + 1 : Nat) : Int)).bind fun t => if t.length + bt.1.length < 140737488355328 then columbariumref5_Encode.l0 k (ints L) (w : Int) (t ++ bt.1) (at_ : Int) else none) (fun k => ?_) ?_
    · rw [columbariumref5_Encode.l2, if_neg (by rw [ints_length, w64 (by omega) (by omega)]; omega), wu64 (x := (g : Int)) (by omega) (by omega), wu64 (x := 2 * (g : Int)) (by omega) (by omega), wu64 (by omega) (by omega)]
      rfl
    · have hp := pack3_all (L := chunkN L i g) (chunkN_lt (Nat.two_pow_pos 64) (fun x hx => Nat.lt_of_lt_of_le (hL x hx) (Nat.pow_le_pow_right (by decide) (by omega))) i g) (by rw [chunkN_length]; omega) (w : Int)
      have hpk : pck (chunkN L i g) (w : Int) = (packed (chunkN L i g) w, 0) := by
        unfold pck
        rw [if_neg (by have := (wd_le (chunkN L i g) w).2 (chunkN_lt (Nat.two_pow_pos w) hL i g); omega)]
        rfl
      rw [hpk] at hp
      have hp : Ev (fun k => columbariumref3_Pack.f k (ints (chunkN L i g)) (w : Int)) (ints (packed (chunkN L i g) w), 0) := hp
      refine Ev.bind hp (Ev.bind (put1_ev (by omega) out (by omega)) ?_)
      refine Ev.congr (fun k => ?_) hr
      rw [if_pos (by rw [ints_length, ints_length, List.length_append]; omega), ints_append]
  | succ d ih =>
    intro j hd hj
    have hlj := hl j
    refine Ev.step (f := fun k => columbariumref5_Encode.l2 k (ints L) (w : Int) (ints out) (at_ : Int) (g : Int) (ints ((L.drop i).take (8 * g) ++ List.replicate (j + 1) 0))) (fun k => ?_) (ih (j + 1) (by omega) (by omega))
    rw [columbariumref5_Encode.l2, if_pos (by rw [ints_length, w64 (by omega) (by omega)]; omega), if_pos (by rw [ints_length]; omega), List.replicate_succ', ← List.append_assoc, ← ints_append ((L.drop i).take (8 * g) ++ List.replicate j 0)]
    rfl
theorem ref_j3 {i g : Nat} {out : List Nat} (hi : i < L.length) (hg : 1 ≤ g) (hg2 : i + 8 * g ≤ L.length + 7) (hout : out.length ≤ 50000000) {r : List Int × Int}
    (hr : Ev (fun k => columbariumref5_Encode.l0 k (ints L) (w : Int) (ints (out ++ putN (2 * g + 1) ++ packed (chunkN L i g) w)) ((min (i + 8 * g) L.length : Nat) : Int)) r) :
    Ev (fun k => columbariumref5_Encode.j3 k (ints L) (w : Int) (ints out) ((i + 8 * g : Nat) : Int) (i : Int) (g : Int)) r := by
  have h4 : Ev (fun k => columbariumref5_Encode.j4 k (ints L) (w : Int) (ints out) ((min (i + 8 * g) L.length : Nat) : Int) (i : Int) (g : Int)) r := by
    have hz := ref_l2 hw hL hlen hi hg (by omega) hout (min (i + 8 * g) L.length) hr _ 0 rfl (by omega)
    rw [List.replicate_zero, List.append_nil] at hz
    have hc := take_drop_min hw hL hlen i (i + 8 * g) (by omega) (by omega)
    rw [Nat.add_sub_cancel_left] at hc
    refine Ev.step (f := fun k => columbariumref5_Encode.l2 k (ints L) (w : Int) (ints out) ((min (i + 8 * g) L.length : Nat) : Int) (g : Int) (ints ((L.drop i).take (8 * g)))) (fun k => ?_) hz
    rw [columbariumref5_Encode.j4, Option.bind_some, if_pos (by omega), if_pos (by omega), if_pos (by rw [ints_length]; omega), Int.toNat_natCast, Int.toNat_natCast, ints_take, ints_drop, hc, if_pos (by rw [ints_length, List.length_take, List.length_drop, List.length_nil]; omega)]
    rfl
  by_cases h : L.length < i + 8 * g
  · refine Ev.step (fun k => ?_) h4
    rw [columbariumref5_Encode.j3, if_pos (by rw [ints_length]; omega), ints_length, Nat.min_eq_right (by omega)]
  · refine Ev.step (fun k => ?_) h4
    rw [columbariumref5_Encode.j3, if_neg (by rw [ints_length]; omega), Nat.min_eq_left (by omega)]
theorem ref_l1 {i : Nat} {out : List Nat} (hi : i < L.length) (hout : out.length ≤ 50000000) {r : List Int × Int} : ∀ d e g, L.length - e ≤ d → e = i + 8 * g → 1 ≤ g → e ≤ L.length + 7 →
    Ev (fun k => columbariumref5_Encode.l0 k (ints L) (w : Int) (ints (out ++ putN (2 * (g + grpN L e) + 1) ++ packed (chunkN L i (g + grpN L e)) w)) ((min (i + 8 * (g + grpN L e)) L.length : Nat) : Int)) r →
    Ev (fun k => columbariumref5_Encode.l1 k (ints L) (w : Int) (ints out) (e : Int) (i : Int) (g : Int)) r := by
  intro d
  induction d using Nat.strongRecOn with
  | _ d ih =>
    intro e g hd he hg hg2 hr
    by_cases h1 : e < L.length
    · by_cases h2 : sameN L e < 8
      · rw [grpN_go ⟨h1, h2⟩, show g + (grpN L (e + 8) + 1) = g + 1 + grpN L (e + 8) by omega] at hr
        refine Ev.step (f := fun k => (columbariumref5_same.f k (ints L) (e : Int)).bind fun t => if t < 8 then columbariumref5_Encode.l1 k (ints L) (w : Int) (ints out) (wrap64 ((e : Int) + 8)) (i : Int) (wrap64 ((g : Int) + 1)) else columbariumref5_Encode.j3 k (ints L) (w : Int) (ints out) (e : Int) (i : Int) (g : Int)) (fun k => ?_) ?_
        · rw [columbariumref5_Encode.l1, if_pos (by rw [ints_length]; omega), if_neg (by omega)]
        · refine Ev.bind (same5_ev L e h1 (by omega)) ?_
          refine Ev.congr (f := fun k => columbariumref5_Encode.l1 k (ints L) (w : Int) (ints out) ((e + 8 : Nat) : Int) (i : Int) ((g + 1 : Nat) : Int)) (fun k => ?_) (ih (L.length - (e + 8)) (by omega) (e + 8) (g + 1) (Nat.le_refl _) (by omega) (by omega) (by omega) hr)
          rw [if_pos (by omega), w64 (x := (e : Int) + 8) (by omega) (by omega), w64 (x := (g : Int) + 1) (by omega) (by omega)]
          rfl
      · rw [grpN_no (by omega), Nat.add_zero] at hr
        refine Ev.step (f := fun k => (columbariumref5_same.f k (ints L) (e : Int)).bind fun t => if t < 8 then columbariumref5_Encode.l1 k (ints L) (w : Int) (ints out) (wrap64 ((e : Int) + 8)) (i : Int) (wrap64 ((g : Int) + 1)) else columbariumref5_Encode.j3 k (ints L) (w : Int) (ints out) (e : Int) (i : Int) (g : Int)) (fun k => ?_) ?_
        · rw [columbariumref5_Encode.l1, if_pos (by rw [ints_length]; omega), if_neg (by omega)]
        · refine Ev.bind (same5_ev L e h1 (by omega)) ?_
          refine Ev.congr (f := fun k => columbariumref5_Encode.j3 k (ints L) (w : Int) (ints out) ((i + 8 * g : Nat) : Int) (i : Int) (g : Int)) (fun k => ?_) (ref_j3 hw hL hlen hi hg (by omega) hout hr)
          rw [if_neg (by omega), he]
    · rw [grpN_no (by omega), Nat.add_zero] at hr
      refine Ev.step (f := fun k => columbariumref5_Encode.j3 k (ints L) (w : Int) (ints out) ((i + 8 * g : Nat) : Int) (i : Int) (g : Int)) (fun k => ?_) (ref_j3 hw hL hlen hi hg (by omega) hout hr)
      rw [columbariumref5_Encode.l1, if_neg (by rw [ints_length]; omega), ← he]
theorem ref_l0 : ∀ d i out, L.length - i ≤ d → out.length ≤ 42 * (i + 8) → i ≤ L.length → (i < L.length → out.length ≤ 42 * i) → Ev (fun k => columbariumref5_Encode.l0 k (ints L) (w : Int) (ints out) (i : Int)) (ints (encS L w i out), 0) := by
  intro d
  induction d using Nat.strongRecOn with
  | _ d ih =>
    intro i out hd hout0 hi2 hout1
    by_cases hi : i < L.length
    · have hout := hout1 hi
      by_cases h8 : 8 ≤ sameN L i
      · have hs := sameN_le L i
        have hpt := putN_10 (n := 2 * sameN L i) (by omega)
        rw [encS_run hi h8]
        refine Ev.step (f := fun k => (columbariumref5_same.f k (ints L) (i : Int)).bind fun t => if t ≥ 8 then ((columbariumref1_Put.f k (ints out) (IntKind.u64.wrap (2 * (IntKind.u64.wrap t)))).bind fun t215 => if 0 ≤ (i : Int) then ((columbariumref5_few.f k (rd (ints L) (i : Int)) (w : Int)).bind fun t219 => if t215.length + t219.length < 140737488355328 then columbariumref5_Encode.l0 k (ints L) (w : Int) (t215 ++ t219) (wrap64 ((i : Int) + t)) else none) else none) else columbariumref5_Encode.l1 k (ints L) (w : Int) (ints out) (i : Int) (i : Int) 0) (fun k => by rw [columbariumref5_Encode.l0, if_pos (by rw [ints_length]; omega)]) ?_
        refine Ev.bind (same5_ev L i hi (by omega)) ?_
        refine Ev.congr (f := fun k => (columbariumref1_Put.f k (ints out) ((2 * sameN L i : Nat) : Int)).bind fun t215 => (columbariumref5_few.f k ((L.getD i 0 : Nat) : Int) (w : Int)).bind fun t219 => if t215.length + t219.length < 140737488355328 then columbariumref5_Encode.l0 k (ints L) (w : Int) (t215 ++ t219) ((i + sameN L i : Nat) : Int) else none) (fun k => ?_) ?_
        · rw [if_pos (by omega), wu64 (x := (sameN L i : Int)) (by omega) (by omega), wu64 (by omega) (by omega), rd_ints, w64 (by omega) (by omega)]
          simp only [if_pos (show (0 : Int) ≤ (i : Int) by omega)]
          rfl
        · refine Ev.bind (put1_ev (by omega) out (by omega)) (Ev.bind (few_ev _ w (by omega)) ?_)
          refine Ev.congr (fun k => ?_) (ih (L.length - (i + sameN L i)) (by omega) (i + sameN L i) (out ++ putN (2 * sameN L i) ++ fewN (L.getD i 0) ((w + 7) / 8)) (Nat.le_refl _) ?_ (by omega) ?_)
          · rw [if_pos (by rw [ints_length, ints_length, List.length_append, fewN_length]; omega), ints_append]
          · rw [List.length_append, List.length_append, fewN_length]; omega
          · rw [List.length_append, List.length_append, fewN_length]; omega
      · rw [encS_grp hi h8]
        have hgl := grpN_le L _ (i + 8) (Nat.le_refl _)
        refine Ev.step (f := fun k => (columbariumref5_same.f k (ints L) (i : Int)).bind fun t => if t ≥ 8 then ((columbariumref1_Put.f k (ints out) (IntKind.u64.wrap (2 * (IntKind.u64.wrap t)))).bind fun t215 => if 0 ≤ (i : Int) then ((columbariumref5_few.f k (rd (ints L) (i : Int)) (w : Int)).bind fun t219 => if t215.length + t219.length < 140737488355328 then columbariumref5_Encode.l0 k (ints L) (w : Int) (t215 ++ t219) (wrap64 ((i : Int) + t)) else none) else none) else columbariumref5_Encode.l1 k (ints L) (w : Int) (ints out) (i : Int) (i : Int) 0) (fun k => by rw [columbariumref5_Encode.l0, if_pos (by rw [ints_length]; omega)]) ?_
        refine Ev.bind (same5_ev L i hi (by omega)) ?_
        refine Ev.congr (fun k => by rw [if_neg (by omega)]) ?_
        refine Ev.step (f := fun k => columbariumref5_Encode.l1 k (ints L) (w : Int) (ints out) ((i + 8 : Nat) : Int) (i : Int) ((1 : Nat) : Int)) (fun k => ?_) ?_
        · rw [columbariumref5_Encode.l1, if_pos (by rw [ints_length]; omega), if_pos rfl, w64 (x := (i : Int) + 8) (by omega) (by omega), w64 (x := (0 : Int) + 1) (by decide) (by decide)]
          rfl
        · refine ref_l1 hw hL hlen hi (by omega) _ (i + 8) 1 (Nat.le_refl _) (by omega) (by omega) (by omega) ?_
          rw [Nat.add_comm 1]
          have hpl := packed_chunk_length hw hL hlen i (grpN L (i + 8) + 1)
          have hpt := putN_10 (n := 2 * (grpN L (i + 8) + 1) + 1) (by omega)
          by_cases hx : i + 8 * (grpN L (i + 8) + 1) < L.length
          · rw [Nat.min_eq_left (by omega)]
            exact ih (L.length - (i + 8 * (grpN L (i + 8) + 1))) (by omega) _ _ (Nat.le_refl _) (by rw [List.length_append, List.length_append]; omega) (by omega) (fun _ => by rw [List.length_append, List.length_append]; omega)
          · rw [Nat.min_eq_right (by omega), encS_end (by omega)]
            have := ih 0 (by omega) L.length (out ++ putN (2 * (grpN L (i + 8) + 1) + 1) ++ packed (chunkN L i (grpN L (i + 8) + 1)) w) (by omega) (by rw [List.length_append, List.length_append]; omega) (Nat.le_refl _) (fun h => absurd h (by omega))
            rwa [encS_end (Nat.le_refl _)] at this
    · rw [encS_end (by omega)]
      refine Ev.step (f := fun _ => some (ints out, 0)) (fun k => ?_) (Ev.now _)
      rw [columbariumref5_Encode.l0, if_neg (by rw [ints_length]; omega)]
end

/-! ### whole -/
theorem enc5_ev {L : List Nat} (hL : ∀ x ∈ L, x < 2 ^ 64) (hlen : L.length ≤ 1048600) (w : Int) : Ev (fun k => columbariumref5_Encode.f k (ints L) w) (ints (enc L w).1, (enc L w).2) := by
  have hbad : Ev (fun k => columbariumref5_Encode.j0 k (ints L) w true) (([] : List Int), 15) := Ev.step (f := fun _ => some (([] : List Int), 15)) (fun k => by rw [columbariumref5_Encode.j0, if_pos rfl]) (Ev.now _)
  unfold enc
  by_cases h1 : w < 0
  · rw [if_pos (.inl h1)]
    exact Ev.congr (fun k => by rw [columbariumref5_Encode.f, if_pos h1]) hbad
  by_cases h2 : w > 32
  · rw [if_pos (.inr (.inl h2))]
    exact Ev.congr (fun k => by rw [columbariumref5_Encode.f, if_neg h1, if_pos h2]) hbad
  refine Ev.congr (fun k => by rw [columbariumref5_Encode.f, if_neg h1, if_neg h2]) (Ev.bind (width3_ev hL (by omega)) ?_)
  by_cases h3 : w < (wd L : Int)
  · rw [if_pos (.inr (.inr h3)), decide_eq_true h3]
    exact hbad
  · rw [if_neg (by omega), decide_eq_false h3]
    obtain ⟨v, rfl⟩ := Int.eq_ofNat_of_zero_le (show 0 ≤ w by omega)
    refine Ev.step (f := fun k => columbariumref5_Encode.l0 k (ints L) (v : Int) (ints []) ((0 : Nat) : Int)) (fun k => by rw [columbariumref5_Encode.j0, if_neg (by decide)]; rfl) ?_
    exact ref_l0 (by omega) ((wd_le L v).1 (by omega)) hlen _ 0 [] (Nat.le_refl _) (by simp) (by omega) (by simp)

end Go.Proofs.Ytpnnfkefddkjcaa.QRunsShapes
