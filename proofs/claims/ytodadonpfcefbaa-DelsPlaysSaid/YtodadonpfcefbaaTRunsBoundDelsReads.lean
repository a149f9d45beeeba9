/- What runs.Encode writes are bytes, and not many. -/
import Derived.Test.YtodadonpfcefbaaTRunsEncADelsReads
namespace Go.Proofs.Ytodadonpfcefbaa.QDelsReads
open Go.RowKit Go.Proofs.YtodadonpfcefbaaW.PrintWords Go.Proofs.YtodadonpfcefbaaW.PrintLast Go.Proofs.YtodadonpfcefbaaW.PrintMore Go.Proofs.Ytodadonpfcefbaa.Base
set_option linter.unusedVariables false
set_option linter.unusedSimpArgs false

theorem encS_bytes {L : List Nat} {w : Nat} : ∀ d i out, L.length - i ≤ d → (∀ x ∈ out, x < 256) → ∀ x ∈ encS L w i out, x < 256 := by
  intro d
  induction d using Nat.strongRecOn with
  | _ d ih =>
    intro i out hd hout
    by_cases hi : i < L.length
    · by_cases h8 : 8 ≤ sameN L i
      · rw [encS_run hi h8]
        refine ih (L.length - (i + sameN L i)) (by omega) _ _ (Nat.le_refl _) fun x hx => ?_
        rcases List.mem_append.1 hx with hx | hx
        · exact (List.mem_append.1 hx).elim (hout x) (putN_lt _ x)
        · exact fewN_lt _ _ x hx
      · rw [encS_grp hi h8]
        refine ih (L.length - (i + 8 * (grpN L (i + 8) + 1))) (by omega) _ _ (Nat.le_refl _) fun x hx => ?_
        rcases List.mem_append.1 hx with hx | hx
        · exact (List.mem_append.1 hx).elim (hout x) (putN_lt _ x)
        · exact packed_lt _ _ x hx
    · rw [encS_end (by omega)]
      exact hout
theorem encS_size {L : List Nat} {w : Nat} (hw : w ≤ 32) (hlen : L.length ≤ 1048600) : ∀ d i out, L.length - i ≤ d → i ≤ L.length + 7 → (encS L w i out).length ≤ out.length + 42 * (L.length + 7 - i) := by
  intro d
  induction d using Nat.strongRecOn with
  | _ d ih =>
    intro i out hd hi2
    by_cases hi : i < L.length
    · by_cases h8 : 8 ≤ sameN L i
      · rw [encS_run hi h8]
        have hs := sameN_le L i
        have hpt := putN_10 (n := 2 * sameN L i) (by omega)
        have := ih (L.length - (i + sameN L i)) (by omega) (i + sameN L i) (out ++ putN (2 * sameN L i) ++ fewN (L.getD i 0) ((w + 7) / 8)) (Nat.le_refl _) (by omega)
        rw [List.length_append, List.length_append, fewN_length] at this
        omega
      · rw [encS_grp hi h8]
        have hgl := grpN_le L _ (i + 8) (Nat.le_refl _)
        have hpt := putN_10 (n := 2 * (grpN L (i + 8) + 1) + 1) (by omega)
        have hpl : (packed (chunkN L i (grpN L (i + 8) + 1)) w).length ≤ 32 * (grpN L (i + 8) + 1) := by
          rw [packed_length, chunkN_length]
          have : 8 * (grpN L (i + 8) + 1) * w ≤ 8 * (grpN L (i + 8) + 1) * 32 := Nat.mul_le_mul_left _ hw
          omega
        have := ih (L.length - (i + 8 * (grpN L (i + 8) + 1))) (by omega) (i + 8 * (grpN L (i + 8) + 1)) (out ++ putN (2 * (grpN L (i + 8) + 1) + 1) ++ packed (chunkN L i (grpN L (i + 8) + 1)) w) (Nat.le_refl _) (by omega)
        rw [List.length_append, List.length_append] at this
        omega
    · rw [encS_end (by omega)]
      omega
theorem enc_bytes (L : List Nat) (w : Int) : ∀ x ∈ (enc L w).1, x < 256 := by
  unfold enc
  split
  · simp
  · exact encS_bytes _ 0 [] (Nat.le_refl _) (by simp)
theorem enc_size {L : List Nat} (hlen : L.length ≤ 1048600) (w : Int) : (enc L w).1.length ≤ 42 * (L.length + 7) := by
  unfold enc
  split
  · simp
  · have := encS_size (L := L) (w := w.toNat) (by omega) hlen _ 0 [] (Nat.le_refl _) (by omega)
    simpa using this
theorem encS_size5 {L : List Nat} {w : Nat} (hw : w ≤ 32) (hlen : L.length ≤ 1000) : ∀ d i out, L.length - i ≤ d → i ≤ L.length + 7 → (encS L w i out).length ≤ out.length + 5 * (L.length + 7 - i) := by
  intro d
  induction d using Nat.strongRecOn with
  | _ d ih =>
    intro i out hd hi2
    by_cases hi : i < L.length
    · by_cases h8 : 8 ≤ sameN L i
      · rw [encS_run hi h8]
        have hs := sameN_le L i
        have hpt := putN_length 1 (2 * sameN L i) (Nat.lt_of_le_of_lt (show 2 * sameN L i ≤ 2000 by omega) (by decide))
        have := ih (L.length - (i + sameN L i)) (by omega) (i + sameN L i) (out ++ putN (2 * sameN L i) ++ fewN (L.getD i 0) ((w + 7) / 8)) (Nat.le_refl _) (by omega)
        rw [List.length_append, List.length_append, fewN_length] at this
        omega
      · rw [encS_grp hi h8]
        have hgl := grpN_le L _ (i + 8) (Nat.le_refl _)
        have hpt := putN_length 1 (2 * (grpN L (i + 8) + 1) + 1) (Nat.lt_of_le_of_lt (show 2 * (grpN L (i + 8) + 1) + 1 ≤ 2000 by omega) (by decide))
        have hpl : (packed (chunkN L i (grpN L (i + 8) + 1)) w).length ≤ 32 * (grpN L (i + 8) + 1) := by
          rw [packed_length, chunkN_length]
          have : 8 * (grpN L (i + 8) + 1) * w ≤ 8 * (grpN L (i + 8) + 1) * 32 := Nat.mul_le_mul_left _ hw
          omega
        have := ih (L.length - (i + 8 * (grpN L (i + 8) + 1))) (by omega) (i + 8 * (grpN L (i + 8) + 1)) (out ++ putN (2 * (grpN L (i + 8) + 1) + 1) ++ packed (chunkN L i (grpN L (i + 8) + 1)) w) (Nat.le_refl _) (by omega)
        rw [List.length_append, List.length_append] at this
        omega
    · rw [encS_end (by omega)]
      omega
theorem enc_size5 {L : List Nat} (hlen : L.length ≤ 1000) (w : Int) : (enc L w).1.length ≤ 5 * (L.length + 7) := by
  unfold enc
  split
  · simp
  · have := encS_size5 (L := L) (w := w.toNat) (by omega) hlen _ 0 [] (Nat.le_refl _) (by omega)
    simpa using this
theorem enc_ok {L : List Nat} {w : Int} (h : (enc L w).2 = 0) : 0 ≤ w ∧ w ≤ 32 ∧ (wd L : Int) ≤ w := by
  unfold enc at h
  split at h
  · exact absurd h (by decide)
  · omega
theorem enc_fits {L : List Nat} {w : Nat} (hw : w ≤ 32) (hL : ∀ x ∈ L, x < 2 ^ w) : (enc L (w : Int)).2 = 0 := by
  have := (wd_le L w).2 hL
  unfold enc
  rw [if_neg (by omega)]

end Go.Proofs.Ytodadonpfcefbaa.QDelsReads
