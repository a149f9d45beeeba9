/- The document's bytes of dictionaries come to the same, as printed for DictTells. -/
import Derived.Test.YtllboaghcfeepaaTDictEncDictTells
import Derived.Test.YtllboaghcfeepaaTVarPut5DictTells
import Derived.Test.YtllboaghcfeepaaTVarGet5DictTells
namespace Go.Proofs.Ytllboaghcfeepaa.QDictTells
open Go.RowKit Go.Proofs.YtllboaghcfeepaaW.PrintWords Go.Proofs.YtllboaghcfeepaaW.PrintLast Go.Proofs.YtllboaghcfeepaaW.PrintMore Go.Proofs.Ytllboaghcfeepaa.Base
set_option linter.unusedVariables false
set_option linter.unusedSimpArgs false

theorem rrising_eq : ∀ (k : Nat) (d : List ByteArray) (i : Int), columbariumref7_Rising.l0 k d i = dict_rising.l0 k d i
  | 0, _, _ => rfl
  | k + 1, d, i => by rw [columbariumref7_Rising.l0, dict_rising.l0, rrising_eq k]
theorem rrising_ev {d : List ByteArray} {b : Bool} (h : Ev (fun k => dict_rising.f k d) b) : Ev (fun k => columbariumref7_Rising.f k d) b :=
  Ev.congr (fun k => by rw [columbariumref7_Rising.f, rrising_eq]; rfl) h
theorem rfits_l0 {d : List ByteArray} (hl : d.length < 4611686018427387904) {b : Bool} (hb : Ev (fun k => dict_rising.f k d) b) (m : Nat) : ∀ i, d.length - i = m → Ev (fun k => columbariumref7_Fits.l0 k d (i : Int)) (!(d.drop i).any dict_long && (decide (d.length ≤ 16) && b)) := by
  induction m with
  | zero =>
    intro i hm
    rw [List.drop_eq_nil_of_le (by omega), List.any_nil, Bool.not_false, Bool.true_and]
    by_cases h : d.length ≤ 16
    · rw [decide_eq_true h, Bool.true_and]
      exact Ev.step (fun k => by rw [columbariumref7_Fits.l0, if_neg (by omega), if_pos (by omega)]) (Ev.bind (rrising_ev hb) (Ev.now _))
    · rw [decide_eq_false h, Bool.false_and]
      exact Ev.step (f := fun _ => some false) (fun k => by rw [columbariumref7_Fits.l0, if_neg (by omega), if_neg (by omega)]) (Ev.now _)
  | succ m ih =>
    intro i hm
    have h1 : i < d.length := by omega
    rw [List.drop_eq_getElem_cons h1, List.any_cons, ← gt_get d i h1]
    by_cases h : 40 < (gt d i).size
    · have e : dict_long (gt d i) = true := decide_eq_true h
      rw [e, Bool.true_or, Bool.not_true, Bool.false_and]
      refine Ev.step (f := fun _ => some false) (fun k => ?_) (Ev.now _)
      rw [columbariumref7_Fits.l0, if_pos (by omega), if_pos (by omega), rd_gt, if_pos (by omega)]
    · have e : dict_long (gt d i) = false := decide_eq_false h
      rw [e, Bool.false_or]
      refine Ev.step (fun k => ?_) (ih (i + 1) (by omega))
      rw [columbariumref7_Fits.l0, if_pos (by omega), if_pos (by omega), rd_gt, if_neg (by omega), succ64 (by omega)]
theorem rfits_of {d : List ByteArray} (hl : d.length < 4611686018427387904) {b : Bool} (hb : Ev (fun k => dict_rising.f k d) b) : Ev (fun k => columbariumref7_Fits.f k d) (decide (d.length ≤ 16) && (b && !d.any dict_long)) := by
  have h := rfits_l0 hl hb _ 0 rfl
  rw [List.drop_zero, show (!d.any dict_long && (decide (d.length ≤ 16) && b)) = (decide (d.length ≤ 16) && (b && !d.any dict_long)) by cases d.any dict_long <;> cases b <;> cases decide (d.length ≤ 16) <;> rfl] at h
  exact h
theorem rputText_ev (A : List Nat) (s : ByteArray) (h : A.length + s.size < 100000) : Ev (fun k => columbariumref1_PutText.f k (ints A) s) (ints (A ++ encT s)) := by
  have hs : s.size < 2 ^ 64 := Nat.lt_trans (show s.size < 140737488355328 by omega) (by decide)
  have h10 := putN_10 hs
  have e : IntKind.u64.wrap ((s.size : Nat) : Int) = ((s.size : Nat) : Int) := wu64 (by omega) (by omega)
  refine Ev.congr (fun k => by rw [columbariumref1_PutText.f, e]) (Ev.bind (put1_ev hs A (by omega)) ?_)
  refine Ev.congr (f := fun _ => some (ints (A ++ encT s))) (fun k => ?_) (Ev.now _)
  rw [if_pos (by rw [ints_length, List.length_append]; omega), bytesOf_txt, ints_append, List.append_assoc]
  rfl
theorem rencode_l0 {d : List ByteArray} (hs : Short d) (m : Nat) : ∀ i (A : List Nat), d.length - i = m → i ≤ d.length → A.length + 50 * (d.length - i) ≤ 2000 →
    Ev (fun k => columbariumref7_Encode.l0 k d (ints A) (i : Int)) (ints (A ++ encL (d.drop i)), 0) := by
  have h16 := hs.1
  induction m with
  | zero =>
    intro i A hm hi hA
    rw [List.drop_eq_nil_of_le (by omega), show encL [] = [] from rfl, List.append_nil]
    exact Ev.step (f := fun _ => some (ints A, 0)) (fun k => by rw [columbariumref7_Encode.l0, if_neg (by omega)]) (Ev.now _)
  | succ m ih =>
    intro i A hm hi hA
    have h1 : i < d.length := by omega
    have h2 := hs.2 _ (gt_mem d i h1)
    have h3 := encT_length (gt d i) (Nat.lt_of_le_of_lt h2 (by decide))
    refine Ev.step (fun k => by rw [columbariumref7_Encode.l0, if_pos (by omega), if_pos (by omega), rd_gt, succ64 (by omega)]) (Ev.bind (rputText_ev A (gt d i) (by omega)) ?_)
    have := ih (i + 1) (A ++ encT (gt d i)) (by omega) (by omega) (by rw [List.length_append]; omega)
    rw [List.append_assoc] at this
    rw [List.drop_eq_getElem_cons h1, encL_cons, ← gt_get d i h1]
    exact this
theorem encode_both {d : List ByteArray} (hl : d.length < 4611686018427387904) : ∃ (X : List Nat) (e : Int) (F : Bool), Ev (fun k => dict_Encode.f k d) (ints X, e) ∧ Ev (fun k => columbariumref7_Encode.f k d) (ints X, e) ∧ Ev (fun k => dict_Fits.f k d) F ∧ Ev (fun k => columbariumref7_Fits.f k d) F ∧ (∀ x ∈ X, x < 256) ∧ X.length ≤ 810 := by
  obtain ⟨b, _, hb⟩ := rising_ev d hl
  have hf := fits_of hb
  have hg := rfits_of hl hb
  cases hF : (decide (d.length ≤ 16) && (b && !d.any dict_long)) with
  | true =>
    rw [hF] at hf hg
    have hs : Short d := by
      refine short_fits.1 ?_
      rw [Bool.and_eq_true] at hF ⊢
      exact ⟨hF.1, (Bool.and_eq_true _ _ ▸ hF.2 : b = true ∧ _).2⟩
    have h16 := hs.1
    have h64 : d.length < 2 ^ 64 := Nat.lt_of_le_of_lt hs.1 (by decide)
    have h3 := putN_10 h64
    have e : IntKind.u64.wrap (d.length : Int) = (d.length : Int) := wu64 (by omega) (by omega)
    have hp : Ev (fun k => varint_Put.f k ([] : List Int) (d.length : Int)) (ints (putN d.length)) := putA_ev [] h64 (by simp)
    have hq : Ev (fun k => columbariumref1_Put.f k ([] : List Int) (d.length : Int)) (ints (putN d.length)) := put1_ev h64 [] (by simp)
    refine ⟨encD d, 0, true, ?_, ?_, hf, hg, encD_lt d, (encD_length hs).2⟩
    · exact Ev.congr (fun k => rfl) (Ev.bind hf (Ev.congr (fun k => by rw [if_pos rfl, e]) (Ev.bind hp (encode_l0 hs _ 0 (putN d.length) rfl (Nat.zero_le _) (by omega)))))
    · exact Ev.congr (fun k => rfl) (Ev.bind hg (Ev.congr (fun k => by rw [if_pos rfl, e]) (Ev.bind hq (rencode_l0 hs _ 0 (putN d.length) rfl (Nat.zero_le _) (by omega)))))
  | false =>
    rw [hF] at hf hg
    refine ⟨[], 12, false, ?_, ?_, hf, hg, by simp, by simp⟩
    · exact Ev.congr (fun k => rfl) (Ev.bind hf (Ev.congr (f := fun _ => some (ints [], 12)) (fun k => by rw [if_neg Bool.false_ne_true]; rfl) (Ev.now _)))
    · exact Ev.congr (fun k => rfl) (Ev.bind hg (Ev.congr (f := fun _ => some (ints [], 12)) (fun k => by rw [if_neg Bool.false_ne_true]; rfl) (Ev.now _)))
theorem w40 : IntKind.u64.wrap 40 = 40 := by decide
section
variable {B : List Nat} (hB : ∀ x ∈ B, x < 256) (hl : B.length ≤ 140737488355327)
include hB hl
theorem getText_both (a : Int) : ∃ r, Ev (fun k => varint_GetText.f k (ints B) a 40) r ∧ Ev (fun k => columbariumref1_GetText.f k (ints B) a 40) r := by
  have hg := get_ev hB hl a
  have hh := get1_ev hB hl a
  have h1 := getS_good B a
  generalize getS B a = g at hg hh h1
  obtain ⟨v, q, e⟩ := g
  simp only at h1
  by_cases he : e = 0
  · obtain ⟨h2, h3⟩ := h1.2 he
    by_cases h4 : v > 40
    · refine ⟨(⟨#[]⟩, 0, 3), Ev.congr (fun k => rfl) (Ev.bind hg (Ev.congr (fun k => by rw [if_pos he, max40, if_pos h4]) (Ev.now _))), Ev.congr (fun k => rfl) (Ev.bind hh (Ev.congr (fun k => by rw [if_pos he, if_neg (by decide)]) (Ev.step (fun k => by rw [columbariumref1_GetText.j0, w40, if_pos h4]) (Ev.now _))))⟩
    · have e1 : wrap64 ((B.length : Int) - q) = (B.length : Int) - q := w64 (by omega) (by omega)
      have e2 : IntKind.u64.wrap ((B.length : Int) - q) = (B.length : Int) - q := wu64 (by omega) (by omega)
      by_cases h5 : v > (B.length : Int) - q
      · refine ⟨(⟨#[]⟩, 0, 10), Ev.congr (fun k => rfl) (Ev.bind hg (Ev.congr (fun k => by rw [if_pos he, max40, if_neg h4, ints_length, e1, e2, if_pos h5]) (Ev.now _))), Ev.congr (fun k => rfl) (Ev.bind hh (Ev.congr (fun k => by rw [if_pos he, if_neg (by decide)]) (Ev.step (fun k => by rw [columbariumref1_GetText.j0, w40, if_neg h4, ints_length, e1, e2, if_pos h5]) (Ev.now _))))⟩
      · have c6 : q ≤ q + v := by omega
        have c7 : q + v ≤ (B.length : Int) := by omega
        have e3 : wrap64 v = v := w64 (by omega) (by omega)
        have e4 : wrap64 (q + v) = q + v := w64 (by omega) (by omega)
        refine ⟨(strOfNums (((ints B).take (q + v).toNat).drop q.toNat), q + v, 0), Ev.congr (fun k => rfl) (Ev.bind hg (Ev.congr (fun k => by rw [if_pos he, max40, if_neg h4, ints_length, e1, e2, if_neg h5, if_pos h2, e3, e4, if_pos c6, if_pos c7]) (Ev.now _))), Ev.congr (fun k => rfl) (Ev.bind hh (Ev.congr (fun k => by rw [if_pos he, if_neg (by decide)]) (Ev.step (fun k => by rw [columbariumref1_GetText.j0, w40, if_neg h4, ints_length, e1, e2, if_neg h5, if_pos h2, e3, e4, if_pos c6, if_pos c7]) (Ev.now _))))⟩
  · exact ⟨(⟨#[]⟩, 0, e), Ev.congr (fun k => rfl) (Ev.bind hg (Ev.congr (fun k => by rw [if_neg he]) (Ev.now _))), Ev.congr (fun k => rfl) (Ev.bind hh (Ev.congr (fun k => by rw [if_neg he]) (Ev.now _)))⟩
theorem decode_l0_both (n : Nat) (hn : n ≤ 16) (m : Nat) : ∀ i (p : Int) (acc : List ByteArray), n - i = m → i ≤ n → acc.length = i →
    ∃ r, r.1.length ≤ 16 ∧ Ev (fun k => dict_Decode.l0 k (ints B) p acc (n : Int) (i : Int)) r ∧ Ev (fun k => columbariumref7_Decode.l0 k (ints B) (m : Int) p acc) r := by
  induction m with
  | zero =>
    intro i p acc hm hi ha
    obtain ⟨b, h1, h2⟩ := rising_ev acc (by omega)
    cases b with
    | true => exact ⟨(acc, p, 0), by simp only; omega, Ev.step (fun k => by rw [dict_Decode.l0, if_neg (by omega)]) (Ev.bind h2 (Ev.congr (f := fun _ => some (acc, p, (0 : Int))) (fun k => by rw [if_pos rfl]) (Ev.now _))), Ev.step (fun k => by rw [columbariumref7_Decode.l0, if_neg (by omega)]) (Ev.bind (rrising_ev h2) (Ev.congr (f := fun _ => some (acc, p, (0 : Int))) (fun k => by rw [if_pos rfl]) (Ev.now _)))⟩
    | false => exact ⟨([], 0, 12), by simp, Ev.step (fun k => by rw [dict_Decode.l0, if_neg (by omega)]) (Ev.bind h2 (Ev.congr (f := fun _ => some (([] : List ByteArray), (0 : Int), (12 : Int))) (fun k => by rw [if_neg Bool.false_ne_true]) (Ev.now _))), Ev.step (fun k => by rw [columbariumref7_Decode.l0, if_neg (by omega)]) (Ev.bind (rrising_ev h2) (Ev.congr (f := fun _ => some (([] : List ByteArray), (0 : Int), (12 : Int))) (fun k => by rw [if_neg Bool.false_ne_true]) (Ev.now _)))⟩
  | succ m ih =>
    intro i p acc hm hi ha
    have em : IntKind.u64.wrap (((m + 1 : Nat) : Int) - 1) = (m : Int) := by rw [wu64 (by omega) (by omega)]; omega
    obtain ⟨g, hg1, hg2⟩ := getText_both hB hl p
    by_cases h : g.2.2 = 0
    · obtain ⟨r, h3, h4, h5⟩ := ih (i + 1) g.2.1 (acc ++ [g.1]) (by omega) (by omega) (by rw [List.length_append, ha]; rfl)
      refine ⟨r, h3, Ev.step (fun k => by rw [dict_Decode.l0, if_pos (by omega), succ64 (by omega)]) (Ev.bind hg1 (Ev.congr (fun k => ?_) h4)), Ev.step (fun k => by rw [columbariumref7_Decode.l0, if_pos (by omega), em]) (Ev.bind hg2 (Ev.congr (fun k => ?_) h5))⟩
      · rw [if_pos h, if_pos (show acc.length < 8796093022208 by omega)]
      · rw [if_pos h, if_pos (show acc.length < 8796093022208 by omega)]
    · exact ⟨([], 0, g.2.2), by simp, Ev.step (fun k => by rw [dict_Decode.l0, if_pos (by omega)]) (Ev.bind hg1 (Ev.congr (f := fun _ => some (([] : List ByteArray), (0 : Int), g.2.2)) (fun k => by rw [if_neg h]) (Ev.now _))), Ev.step (fun k => by rw [columbariumref7_Decode.l0, if_pos (by omega)]) (Ev.bind hg2 (Ev.congr (f := fun _ => some (([] : List ByteArray), (0 : Int), g.2.2)) (fun k => by rw [if_neg h]) (Ev.now _)))⟩
theorem decode_both (a : Int) : ∃ r, r.1.length ≤ 16 ∧ Ev (fun k => dict_Decode.f k (ints B) a) r ∧ Ev (fun k => columbariumref7_Decode.f k (ints B) a) r := by
  have hg := get_ev hB hl a
  have hh := get1_ev hB hl a
  have h1 := (getS_good B a).1
  generalize getS B a = g at hg hh h1
  obtain ⟨v, q, e⟩ := g
  simp only at h1
  have hsm : Ev (fun k => varint_Small.f k (ints B) a) (wrap64 (mn v 1099511627776), q, e) := Ev.congr (fun k => rfl) (Ev.bind hg (Ev.now _))
  by_cases he : e = 0
  · by_cases h16 : v ≤ 16
    · obtain ⟨u, rfl⟩ := Int.eq_ofNat_of_zero_le h1.1
      have e1 : wrap64 (mn (u : Int) 1099511627776) = (u : Int) := by
        rw [mn, if_neg (by omega), w64 (by omega) (by omega)]
      rw [e1] at hsm
      obtain ⟨r, h3, h4, h5⟩ := decode_l0_both hB hl u (by omega) u 0 q [] (by omega) (Nat.zero_le _) rfl
      refine ⟨r, h3, Ev.congr (fun k => rfl) (Ev.bind hsm (Ev.congr (fun k => ?_) h4)), Ev.congr (fun k => rfl) (Ev.bind hh (Ev.congr (fun k => ?_) h5))⟩
      · rw [if_pos he, if_neg (by omega)]
        rfl
      · rw [if_pos he, if_neg (by omega)]
    · have e1 : wrap64 (mn v 1099511627776) > 16 := by
        rw [mn]
        split
        · rw [w64 (by omega) (by omega)]
          omega
        · rw [w64 (by omega) (by omega)]
          omega
      exact ⟨([], 0, 4), by simp, Ev.congr (fun k => rfl) (Ev.bind hsm (Ev.congr (f := fun _ => some (([] : List ByteArray), (0 : Int), (4 : Int))) (fun k => by rw [if_pos he, if_pos e1]) (Ev.now _))), Ev.congr (fun k => rfl) (Ev.bind hh (Ev.congr (f := fun _ => some (([] : List ByteArray), (0 : Int), (4 : Int))) (fun k => by rw [if_pos he, if_pos (by omega)]) (Ev.now _)))⟩
  · exact ⟨([], 0, e), by simp, Ev.congr (fun k => rfl) (Ev.bind hsm (Ev.congr (f := fun _ => some (([] : List ByteArray), (0 : Int), e)) (fun k => by rw [if_neg he]) (Ev.now _))), Ev.congr (fun k => rfl) (Ev.bind hh (Ev.congr (f := fun _ => some (([] : List ByteArray), (0 : Int), e)) (fun k => by rw [if_neg he]) (Ev.now _)))⟩
end

end Go.Proofs.Ytllboaghcfeepaa.QDictTells
