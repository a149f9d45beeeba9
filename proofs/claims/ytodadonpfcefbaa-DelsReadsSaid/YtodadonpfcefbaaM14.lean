/- Any bytes: dels.Decode and the document's Decode come to the same. -/
import Derived.Test.YtodadonpfcefbaaM11
import Derived.Test.YtodadonpfcefbaaTRunsDecADelsReads
import Derived.Test.YtodadonpfcefbaaTRunsDecDelsReads
namespace Go.Proofs.Ytodadonpfcefbaa.Marks
open Go.RowKit Go.Proofs.YtodadonpfcefbaaW.PrintWords Go.Proofs.YtodadonpfcefbaaW.PrintLast Go.Proofs.YtodadonpfcefbaaW.PrintMore Go.Proofs.Ytodadonpfcefbaa.QDelsReads Go.Proofs.Ytodadonpfcefbaa.Base
set_option linter.unusedVariables false
set_option linter.unusedSimpArgs false
theorem ev_one {α : Type} {g : Nat → Option α} {a b : α} (h : Ev g a) (k : Ev g b) : a = b := by
  obtain ⟨K, h⟩ := h
  obtain ⟨L, k⟩ := k
  have := (h (max K L) (Nat.le_max_left _ _)).symm.trans (k (max K L) (Nat.le_max_right _ _))
  exact Option.some.inj this
theorem ev_both {α β : Type} {g : Nat → Option α} {f : Nat → Option β} {a : α} {b : β} (h : Ev g a) (k : Ev f b) : ∃ n, g n = some a ∧ f n = some b := by
  obtain ⟨K, h⟩ := h
  obtain ⟨L, k⟩ := k
  exact ⟨max K L, h _ (Nat.le_max_left _ _), k _ (Nat.le_max_right _ _)⟩
theorem ref_dec_l0 (R : List Nat) (hR : R.length ≤ 1048576) (q : Int) (d : Nat) : ∀ i, R.length - i = d → i ≤ R.length → Ev (fun k => columbariumref11_Decode.l0 k q (ints R) ((ints (R.take i)).map fun x => x == 1) (i : Int)) ((ints R).map (fun x => x == 1), q, 0) := by
  induction d with
  | zero =>
    intro i hd hi
    have e : i = R.length := by omega
    subst e
    rw [List.take_length]
    exact Ev.step (f := fun _ => some ((ints R).map (fun x => x == 1), q, (0 : Int))) (fun k => by rw [columbariumref11_Decode.l0, if_neg (by rw [ints_length]; omega)]) (Ev.now _)
  | succ m ih =>
    intro i hd hi
    have hn := ih (i + 1) (by omega) (by omega)
    refine Ev.step (fun k => ?_) hn
    have h1 : i < R.length := by omega
    have e2 : R.take (i + 1) = R.take i ++ [R[i]] := List.take_succ_eq_append_getElem h1
    have e3 : rd (ints R) (i : Int) = (R[i] : Int) := by simp [rd, ints, h1]
    rw [columbariumref11_Decode.l0, if_pos (by rw [ints_length]; omega), if_pos (by omega), if_pos (by simp [ints]; omega), e2, e3, succ64 (by omega)]
    rw [show ints (R.take i ++ [R[i]]) = ints (R.take i) ++ [(R[i] : Int)] from by unfold ints; rw [List.map_append]; rfl, List.map_append]
    rfl
theorem dec_same {B : List Nat} (hB : ∀ x ∈ B, x < 256) (hl : B.length ≤ 140737488351232) (a : Int) :
    ∃ (k : Nat) (m : Option (List Bool)) (v : List Bool) (q e : Int), decF k (ints B) a = some (m, q, e) ∧ columbariumref11_Decode.f k (ints B) a = some (v, q, e) ∧ ((e ≠ 0 ∧ m = none) ∨ (e = 0 ∧ m = some v)) ∧ v.length ≤ 1048576 := by
  have hg := get_ev hB (Nat.le_trans hl (by decide)) a
  have hg1 := get1_ev hB (Nat.le_trans hl (by decide)) a
  have hgood : (0 ≤ (getS B a).1 ∧ (getS B a).1 ≤ 18446744073709551615) ∧ ((getS B a).2.2 = 0 → 0 ≤ (getS B a).2.1 ∧ (getS B a).2.1 ≤ (B.length : Int)) := by
    unfold getS
    split
    · exact ⟨⟨by decide, by decide⟩, fun h => by simp at h⟩
    · next hc =>
      have h := getR_good (B.drop a.toNat) a.toNat
      refine ⟨h.1, fun h2 => ?_⟩
      have h3 := h.2 h2
      rw [List.length_drop] at h3
      omega
  generalize getS B a = g at hg hg1 hgood
  obtain ⟨v, q, e⟩ := g
  have hsm : Ev (fun k => varint_Small.f k (ints B) a) (wrap64 (mn v 1099511627776), q, e) := Ev.congr (fun k => rfl) (Ev.bind hg (Ev.now _))
  simp only at hgood
  have hfin : ∀ (m : Option (List Bool)) (w : List Bool) (q e : Int), Ev (fun k => decF k (ints B) a) (m, q, e) → Ev (fun k => columbariumref11_Decode.f k (ints B) a) (w, q, e) → ((e ≠ 0 ∧ m = none) ∨ (e = 0 ∧ m = some w)) → w.length ≤ 1048576 → ∃ (k : Nat) (m : Option (List Bool)) (v : List Bool) (q e : Int), decF k (ints B) a = some (m, q, e) ∧ columbariumref11_Decode.f k (ints B) a = some (v, q, e) ∧ ((e ≠ 0 ∧ m = none) ∨ (e = 0 ∧ m = some v)) ∧ v.length ≤ 1048576 :=
    fun m w q e h1 h2 h3 h4 => by
      obtain ⟨k, k1, k2⟩ := ev_both h1 h2
      exact ⟨k, m, w, q, e, k1, k2, h3, h4⟩
  by_cases c1 : e = 0
  · subst c1
    by_cases c2 : v > 1048576
    · refine hfin none [] 0 4 (Ev.congr (fun k => rfl) (Ev.bind hsm (Ev.congr (fun k => ?_) (Ev.now _)))) (Ev.congr (fun k => rfl) (Ev.bind hg1 (Ev.congr (fun k => ?_) (Ev.now _)))) (.inl ⟨by decide, rfl⟩) (by simp)
      · rw [if_pos rfl, if_pos ?_]
        show wrap64 (mn v 1099511627776) > 1048576
        unfold mn wrap64
        split <;> omega
      · rw [if_pos rfl, if_pos c2]
    · obtain ⟨n, rfl⟩ := Int.eq_ofNat_of_zero_le hgood.1.1
      obtain ⟨p, rfl⟩ := Int.eq_ofNat_of_zero_le (hgood.2 rfl).1
      have hp : p ≤ B.length := by have := (hgood.2 rfl).2; omega
      have hn : n ≤ 1048576 := by omega
      have es : wrap64 (mn (n : Int) 1099511627776) = (n : Int) := by unfold mn wrap64; rw [if_neg (by omega)]; omega
      rw [es] at hsm
      have en : wrap64 (n : Int) = (n : Int) := w64 (by omega) (by omega)
      obtain ⟨r, _, hr1, hr2⟩ := QDelsReadsB.dec_both hB hl (p : Int) (n : Int) 1
      obtain ⟨r', hga, hr3⟩ := dec_ev hB (Nat.le_trans hl (by decide)) (n := n) (w := 1) (by omega) hn p hp
      have hrr : r = r' := ev_one hr1 hr3
      subst hrr
      obtain ⟨xs, q2, e2⟩ := r
      rcases hga with ⟨h1, h2⟩ | ⟨h1, R, q3, h2, h3, _, _, h6, _⟩
      · simp only at h1 h2
        subst h2
        refine hfin none [] 0 e2 (Ev.congr (fun k => rfl) (Ev.bind hsm (Ev.congr (fun k => ?_) (Ev.bind (f := fun k t => if t.2.2 = 0 then (if (t.1.length : Int) = (n : Int) then some (some (t.1.map fun x => x == 1), t.2.1, 0) else none) else some (none, 0, t.2.2)) hr1 (Ev.congr (fun k => ?_) (Ev.now _)))))) (Ev.congr (fun k => rfl) (Ev.bind hg1 (Ev.congr (fun k => ?_) (Ev.bind (f := fun k t => if t.2.2 = 0 then columbariumref11_Decode.l0 k t.2.1 t.1 ([] : List Bool) 0 else some (([] : List Bool), 0, t.2.2)) hr2 (Ev.congr (fun k => ?_) (Ev.now _)))))) (.inl ⟨h1, rfl⟩) (by simp)
        · rw [if_pos rfl, if_neg (by omega)]
        · exact if_neg h1
        · rw [if_pos rfl, if_neg (by omega), en]
        · exact if_neg h1
      · simp only at h1 h2 h3
        subst h1
        subst h2
        have hRl : R.length ≤ 1048576 := by omega
        have hl0 := ref_dec_l0 R hRl q2 R.length 0 (by omega) (by omega)
        refine hfin (some ((ints R).map fun x => x == 1)) ((ints R).map fun x => x == 1) q2 0 (Ev.congr (fun k => rfl) (Ev.bind hsm (Ev.congr (fun k => ?_) (Ev.bind (f := fun k t => if t.2.2 = 0 then (if (t.1.length : Int) = (n : Int) then some (some (t.1.map fun x => x == 1), t.2.1, 0) else none) else some (none, 0, t.2.2)) hr1 (Ev.congr (fun k => ?_) (Ev.now _)))))) (Ev.congr (fun k => rfl) (Ev.bind hg1 (Ev.congr (fun k => ?_) (Ev.bind (f := fun k t => if t.2.2 = 0 then columbariumref11_Decode.l0 k t.2.1 t.1 ([] : List Bool) 0 else some (([] : List Bool), 0, t.2.2)) hr2 (Ev.congr (fun k => ?_) hl0))))) (.inr ⟨rfl, rfl⟩) (by rw [List.length_map, ints_length]; exact hRl)
        · rw [if_pos rfl, if_neg (by omega)]
        · rw [if_pos rfl, if_pos (by rw [ints_length, h6])]
        · rw [if_pos rfl, if_neg (by omega), en]
        · rw [if_pos rfl]
          rfl
  · refine hfin none [] 0 e (Ev.congr (fun k => rfl) (Ev.bind hsm (Ev.congr (fun k => ?_) (Ev.now _)))) (Ev.congr (fun k => rfl) (Ev.bind hg1 (Ev.congr (fun k => ?_) (Ev.now _)))) (.inl ⟨c1, rfl⟩) (by simp)
    · exact if_neg c1
    · exact if_neg c1
end Go.Proofs.Ytodadonpfcefbaa.Marks
