/- Marks as a list: what Parts and Plays ask of them. -/
import Derived.Test.YtodadonpfcefbaaM4
namespace Go.Proofs.Ytodadonpfcefbaa.Marks
open Go.RowKit Go.Proofs.YtodadonpfcefbaaW.PrintWords Go.Proofs.YtodadonpfcefbaaW.PrintLast Go.Proofs.YtodadonpfcefbaaW.PrintMore Go.Proofs.Ytodadonpfcefbaa.QDelsReads Go.Proofs.Ytodadonpfcefbaa.Base
set_option linter.unusedVariables false
set_option linter.unusedSimpArgs false
theorem within_some (n : Int) (hi : Nat) (h : hi < 1000000000) : ∃ r : Nat, r ≤ hi ∧ columbariumbook_Within.f n 0 (hi : Int) = some (r : Int) := by
  have e : wrap64 ((wrap64 ((hi : Int) - 0)) + 1) = ((hi + 1 : Nat) : Int) := by rw [w64 (x := (hi : Int) - 0) (by omega) (by omega), w64 (by omega) (by omega)]; omega
  have b1 := Int.tmod_lt_of_pos n (show (0 : Int) < ((hi + 1 : Nat) : Int) by omega)
  have b2 : -((hi + 1 : Nat) : Int) < Int.tmod n ((hi + 1 : Nat) : Int) := by
    have := Int.lt_tmod_of_pos n (show (0 : Int) < ((hi + 1 : Nat) : Int) by omega)
    omega
  unfold columbariumbook_Within.f
  rw [e, if_neg (by omega)]
  generalize Int.tmod n ((hi + 1 : Nat) : Int) = t at b1 b2 ⊢
  by_cases ht : t < 0
  · refine ⟨(t + hi + 1).toNat, by omega, ?_⟩
    rw [if_pos ht, w64 (x := t + (hi : Int)) (by omega) (by omega), w64 (x := t + (hi : Int) - 0) (by omega) (by omega), w64 (x := t + (hi : Int) - 0 + 1) (by omega) (by omega), w64 (by omega) (by omega)]
    congr 1
    omega
  · refine ⟨t.toNat, by omega, ?_⟩
    rw [if_neg ht, w64 (by omega) (by omega)]
    congr 1
    omega

theorem hasL_out {l : List Bool} {x : Int} (h : ¬ (0 ≤ x ∧ x < (l.length : Int))) : hasL l x = false := by
  unfold hasL
  by_cases c : 0 ≤ x
  · rw [getD_out (by omega), Bool.and_false]
  · rw [decide_eq_false c, Bool.false_and]
theorem fresh_eq (l : List Bool) (x : Int) : freshL l x = (decide (0 ≤ x) && decide (x < (l.length : Int)) && !hasL l x) := by
  unfold freshL hasL
  by_cases c : 0 ≤ x
  · have e : decide (x.toNat < l.length) = decide (x < (l.length : Int)) := by
      congr 1
      exact propext ⟨fun h => by omega, fun h => by omega⟩
    rw [decide_eq_true c, e]
    simp
  · simp [c]
theorem has_set (l : List Bool) (x : Int) : hasL (setL l x) x = (decide (0 ≤ x) && decide (x < (l.length : Int))) := by
  unfold setL hasL
  by_cases c : 0 ≤ x
  · rw [if_pos c, decide_eq_true c, List.getD_eq_getElem?_getD, List.getElem?_set]
    by_cases h : x.toNat < l.length
    · rw [if_pos rfl, if_pos h, decide_eq_true (by omega)]
      rfl
    · rw [if_pos rfl, if_neg h, decide_eq_false (by omega)]
      rfl
  · rw [decide_eq_false c]
    rfl
theorem count_set (l : List Bool) : ∀ p, (l.set p true).count true = l.count true + (if p < l.length ∧ l.getD p false = false then 1 else 0) := by
  induction l with
  | nil => intro p; simp
  | cons b r ih =>
    intro p
    cases p with
    | zero => cases b <;> simp
    | succ p =>
      have := ih p
      cases b <;> simp [List.count_cons] at this ⊢ <;> omega
theorem cnt_set (l : List Bool) (x : Int) : cntL (setL l x) = cntL l + (if freshL l x = true then 1 else 0) := by
  unfold cntL setL freshL
  by_cases c : 0 ≤ x
  · have := count_set l x.toNat
    rw [if_pos c, this]
    by_cases h1 : x.toNat < l.length
    · cases h2 : l.getD x.toNat false <;> simp [c, h1, h2]
    · simp [c, h1]
  · simp [c]
theorem cnt_range (l : List Bool) : 0 ≤ cntL l ∧ cntL l ≤ (l.length : Int) := by
  unfold cntL
  have := List.count_le_length (a := true) (l := l)
  omega
theorem left_len (l : List Bool) : ((leftL l).length : Int) + cntL l = (l.length : Int) := by
  have := leftFrom_length l 0
  unfold leftL cntL
  omega
theorem leftFrom_mem (l : List Bool) : ∀ (k : Nat) (y : Int), y ∈ leftFrom k l → (k : Int) ≤ y ∧ l.getD (y.toNat - k) false = false := by
  induction l with
  | nil => intro k y h; cases h
  | cons b r ih =>
    intro k y h
    cases b with
    | true =>
      obtain ⟨h1, h2⟩ := ih (k + 1) y h
      have e : y.toNat - k = (y.toNat - (k + 1)) + 1 := by omega
      exact ⟨by omega, by rw [e]; simpa using h2⟩
    | false =>
      simp only [leftFrom, List.mem_cons] at h
      rcases h with rfl | h
      · exact ⟨Int.le_refl _, by simp⟩
      · obtain ⟨h1, h2⟩ := ih (k + 1) y h
        have e : y.toNat - k = (y.toNat - (k + 1)) + 1 := by omega
        exact ⟨by omega, by rw [e]; simpa using h2⟩
theorem leftFrom_rise (l : List Bool) : ∀ k : Nat, (leftFrom k l).Pairwise (· < ·) := by
  induction l with
  | nil => intro k; exact List.Pairwise.nil
  | cons b r ih =>
    intro k
    cases b with
    | true => exact ih (k + 1)
    | false =>
      refine List.Pairwise.cons (fun y hy => ?_) (ih (k + 1))
      have := (leftFrom_mem r (k + 1) y hy).1
      omega
theorem left_has {l : List Bool} {i : Nat} {y : Int} (h : (leftL l)[i]? = some y) : hasL l y = false := by
  have := (leftFrom_mem l 0 y (List.mem_of_getElem? h)).2
  unfold hasL
  rw [show y.toNat = y.toNat - 0 from rfl, this, Bool.and_false]
theorem left_rise {l : List Bool} {i : Nat} {y z : Int} (h : (leftL l)[i]? = some y) (k : (leftL l)[i + 1]? = some z) : y < z := by
  obtain ⟨h1, h2⟩ := List.getElem?_eq_some_iff.1 h
  obtain ⟨k1, k2⟩ := List.getElem?_eq_some_iff.1 k
  rw [← h2, ← k2]
  exact (List.pairwise_iff_getElem.1 (leftFrom_rise l 0)) i (i + 1) h1 k1 (Nat.lt_succ_self i)
theorem cnt_new (n : Nat) : cntL (List.replicate n false) = 0 := by simp [cntL, List.count_replicate]
end Go.Proofs.Ytodadonpfcefbaa.Marks
