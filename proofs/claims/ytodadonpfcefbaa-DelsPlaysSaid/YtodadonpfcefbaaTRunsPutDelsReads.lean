/- Numbers in bytes, and how many are the same from a place on: what the program's functions and the document's come to. -/
import Derived.Test.YtodadonpfcefbaaTBitsDelsReads
namespace Go.Proofs.Ytodadonpfcefbaa.QDelsReads
open Go.RowKit Go.Proofs.YtodadonpfcefbaaW.PrintWords Go.Proofs.YtodadonpfcefbaaW.PrintLast Go.Proofs.YtodadonpfcefbaaW.PrintMore Go.Proofs.Ytodadonpfcefbaa.Base
set_option linter.unusedVariables false
set_option linter.unusedSimpArgs false

/-! ### same -/
def cnt (L : List Nat) (v : Nat) (j : Nat) : Nat := ((L.drop j).takeWhile (fun x => x == v)).length
theorem cnt_end (L : List Nat) (v j : Nat) (h : L.length ≤ j) : cnt L v j = 0 := by simp [cnt, List.drop_eq_nil_of_le h]
theorem drop_cons (L : List Nat) (j : Nat) (h : j < L.length) : L.drop j = L.getD j 0 :: L.drop (j + 1) := by
  rw [List.drop_eq_getElem_cons h, List.getD_eq_getElem?_getD, List.getElem?_eq_getElem h]
  rfl
theorem cnt_eq (L : List Nat) (v j : Nat) (h : j < L.length) (he : L.getD j 0 = v) : cnt L v j = cnt L v (j + 1) + 1 := by
  unfold cnt
  rw [drop_cons L j h, he, List.takeWhile_cons_of_pos (by simp), List.length_cons]
theorem cnt_ne (L : List Nat) (v j : Nat) (h : j < L.length) (he : L.getD j 0 ≠ v) : cnt L v j = 0 := by
  unfold cnt
  rw [drop_cons L j h, List.takeWhile_cons_of_neg (by simpa using he)]
  rfl
theorem cnt_le (L : List Nat) (v j : Nat) : cnt L v j ≤ L.length - j := by
  unfold cnt
  have := (List.takeWhile_sublist (fun x => x == v) (l := L.drop j)).length_le
  rw [List.length_drop] at this
  exact this
def sameN (L : List Nat) (i : Nat) : Nat := cnt L (L.getD i 0) i
theorem sameN_le (L : List Nat) (i : Nat) : sameN L i ≤ L.length - i := cnt_le _ _ _
theorem same_l (L : List Nat) (i : Nat) (hi : i < L.length) (hb : L.length < 9223372036854775807) (d : Nat) : ∀ j, L.length - j = d → i ≤ j → j ≤ L.length →
    Ev (fun k => runs_same.l0 k (ints L) (i : Int) (j : Int)) ((j + cnt L (L.getD i 0) j - i : Nat) : Int) := by
  induction d with
  | zero =>
    intro j hd hij hj
    refine Ev.step (f := fun _ => some ((j + cnt L (L.getD i 0) j - i : Nat) : Int)) (fun k => ?_) (Ev.now _)
    rw [runs_same.l0, if_neg (by rw [ints_length]; omega), cnt_end L _ j (by omega), w64 (by omega) (by omega)]
    congr 1
    omega
  | succ d ih =>
    intro j hd hij hj
    have hj' : j < L.length := by omega
    by_cases h : L.getD j 0 = L.getD i 0
    · rw [cnt_eq L _ j hj' h, show j + (cnt L (L.getD i 0) (j + 1) + 1) - i = j + 1 + cnt L (L.getD i 0) (j + 1) - i by omega]
      refine Ev.step (f := fun k => runs_same.l0 k (ints L) (i : Int) ((j + 1 : Nat) : Int)) (fun k => ?_) (ih (j + 1) (by omega) (by omega) (by omega))
      rw [runs_same.l0, if_pos (by rw [ints_length]; omega), if_pos (by omega), if_pos (by omega), if_pos (by rw [ints_length]; omega), rd_ints, rd_ints, h, if_pos rfl, succ64 (by omega)]
    · rw [cnt_ne L _ j hj' h]
      refine Ev.step (f := fun _ => some ((j + 0 - i : Nat) : Int)) (fun k => ?_) (Ev.now _)
      rw [runs_same.l0, if_pos (by rw [ints_length]; omega), if_pos (by omega), if_pos (by omega), if_pos (by rw [ints_length]; omega), rd_ints, rd_ints, if_neg (by omega), w64 (by omega) (by omega)]
      congr 1
      omega
theorem same_ev (L : List Nat) (i : Nat) (hi : i < L.length) (hb : L.length < 9223372036854775807) : Ev (fun k => runs_same.f k (ints L) (i : Int)) ((sameN L i : Nat) : Int) := by
  have := same_l L i hi hb _ i rfl (by omega) (by omega)
  rw [show i + cnt L (L.getD i 0) i - i = sameN L i from by unfold sameN; omega] at this
  exact Ev.congr (fun k => by rw [runs_same.f]) this
/-! ### Put -/
def putN (n : Nat) : List Nat := if h : n < 128 then [n] else (n % 128 + 128) :: putN (n / 128)
termination_by n
decreasing_by omega
theorem putN_small {n : Nat} (h : n < 128) : putN n = [n] := by rw [putN, dif_pos h]
theorem putN_big {n : Nat} (h : ¬ n < 128) : putN n = (n % 128 + 128) :: putN (n / 128) := by rw [putN, dif_neg h]
theorem putN_lt : ∀ n : Nat, ∀ x ∈ putN n, x < 256 := by
  intro n
  induction n using Nat.strongRecOn with
  | _ n ih =>
    by_cases h : n < 128
    · rw [putN_small h]
      intro x hx
      rw [List.mem_singleton] at hx
      omega
    · rw [putN_big h]
      intro x hx
      rcases List.mem_cons.1 hx with hx | hx
      · omega
      · exact ih _ (by omega) x hx
theorem putN_length (j : Nat) : ∀ n : Nat, n < 128 ^ (j + 1) → (putN n).length ≤ j + 1 := by
  induction j with
  | zero => intro n h; rw [putN_small (by simpa using h)]; simp
  | succ j ih =>
    intro n h
    by_cases hs : n < 128
    · rw [putN_small hs]; simp
    · rw [putN_big hs, List.length_cons]
      have := ih (n / 128) (by rw [Nat.div_lt_iff_lt_mul (by decide), ← Nat.pow_succ]; exact h)
      omega
theorem putN_10 {n : Nat} (h : n < 2 ^ 64) : (putN n).length ≤ 10 := putN_length 9 n (Nat.lt_of_lt_of_le h (by decide))
theorem or128 (n : Nat) : (n % 256) ||| 128 = n % 128 + 128 := by
  have h : (n % 256) ||| 128 = (n % 128) ||| 128 := by
    apply Nat.eq_of_testBit_eq
    intro i
    rw [Nat.testBit_or, Nat.testBit_or, show (256 : Nat) = 2 ^ 8 from rfl, show (128 : Nat) = 2 ^ 7 from rfl, Nat.testBit_mod_two_pow, Nat.testBit_mod_two_pow, Nat.testBit_two_pow]
    by_cases h7 : 7 = i
    · simp [h7]
    · simp only [h7, decide_false, Bool.or_false]
      by_cases h8 : i < 7
      · simp [h8, show i < 8 by omega]
      · simp [h8, show ¬ i < 8 by omega]
  rw [h, Nat.or_comm, show (128 : Nat) = 2 ^ 7 * 1 from rfl, ← Nat.two_pow_add_eq_or_of_lt (Nat.mod_lt _ (by decide))]
  omega
theorem put_l (n : Nat) : n < 2 ^ 64 → ∀ A : List Nat, A.length + (putN n).length < 140737488355328 → Ev (fun k => varint_Put.l0 k (n : Int) (ints A)) (ints (A ++ putN n)) := by
  induction n using Nat.strongRecOn with
  | _ n ih =>
    intro hn A hA
    by_cases h : n < 128
    · rw [putN_small h] at hA ⊢
      refine Ev.step (f := fun _ => some (ints (A ++ [n]))) (fun k => ?_) (Ev.now _)
      rw [varint_Put.l0, if_neg (by omega), if_pos (by rw [ints_length]; simp at hA; omega), show (n : Int) % 256 = (n : Int) by omega]
      rw [show [(n : Int)] = ints [n] from rfl, ints_append]
    · rw [putN_big h] at hA ⊢
      rw [List.length_cons] at hA
      refine Ev.step (f := fun k => varint_Put.l0 k ((n / 128 : Nat) : Int) (ints (A ++ [n % 128 + 128]))) (fun k => ?_) ?_
      · rw [varint_Put.l0, if_pos (by omega), if_pos (by rw [ints_length]; omega)]
        have e : Go.bits .or .u8 ((n : Int) % 256) 128 = ((n % 128 + 128 : Nat) : Int) := by
          rw [show (n : Int) % 256 = ((n % 256 : Nat) : Int) by omega, show (128 : Int) = ((128 : Nat) : Int) from rfl, or8 (Nat.mod_lt _ (by decide)) (by decide), or128]
        rw [e, show [((n % 128 + 128 : Nat) : Int)] = ints [n % 128 + 128] from rfl, ints_append, show (n : Int) / 128 = ((n / 128 : Nat) : Int) by omega]
      · have := ih (n / 128) (by omega) (by omega) (A ++ [n % 128 + 128]) (by rw [List.length_append, List.length_singleton]; omega)
        rw [List.append_assoc] at this
        exact this
theorem put_ev {n : Nat} (hn : n < 2 ^ 64) : Ev (fun k => varint_Put.f k [] (n : Int)) (ints (putN n)) := by
  have h10 := putN_10 hn
  refine Ev.congr (f := fun k => varint_Put.l0 k (n : Int) (ints [])) (fun k => by rw [varint_Put.f, Option.bind_some, if_pos (by simp)]; rfl) ?_
  have := put_l n hn [] (by simp; omega)
  rwa [List.nil_append] at this

end Go.Proofs.Ytodadonpfcefbaa.QDelsReads
