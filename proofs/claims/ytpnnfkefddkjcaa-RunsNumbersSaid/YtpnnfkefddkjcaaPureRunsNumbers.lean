/- A closed sentence: chapter 5's runs, and one for each refusal and shape. No condition. -/
import Derived.Test.YtpnnfkefddkjcaaTRunsDecRunsNumbers
import Derived.Test.YtpnnfkefddkjcaaTRunsBoundRunsNumbers
import Derived.Test.YtpnnfkefddkjcaaTSame64RunsNumbers
namespace Go.Proofs.Ytpnnfkefddkjcaa.Pure
open Go.RowKit Go.Proofs.Ytpnnfkefddkjcaa.QRunsNumbers Go.Proofs.YtpnnfkefddkjcaaW.PrintWords Go.Proofs.YtpnnfkefddkjcaaW.PrintLast Go.Proofs.Ytpnnfkefddkjcaa.Base
set_option linter.unusedVariables false
set_option linter.unusedSimpArgs false

theorem known_ev : Ev (fun k => columbariumlaw5_known.f k) true := Ev.of columbariumlaw5_known.mono (k := 60) (by decide +kernel)
theorem last_ev : Ev (fun k => (runs_Decode.f k ([] : List Int) 0 (-1) 3).bind fun x => (runs_Decode.f k ([] : List Int) 1 0 3).bind fun y => (runs_Decode.f k ([] : List Int) 0 1048577 3).bind fun z => if x.2.2 = 1 then (if y.2.2 = 1 then (if z.2.2 = 1 then ((columbariumlaw5_known.f k).bind fun t => some t) else some false) else some false) else some false) true := by
 refine Ev.bind (a := ([], 0, 1)) (Ev.of (runs_Decode.mono _ _ _ _) (k := 1) (by decide +kernel)) (Ev.bind (a := ([], 0, 1)) (Ev.of (runs_Decode.mono _ _ _ _) (k := 1) (by decide +kernel)) (Ev.bind (a := ([], 0, 1)) (Ev.of (runs_Decode.mono _ _ _ _) (k := 1) (by decide +kernel)) ?_))
 exact Ev.congr (fun k => by rw [if_pos rfl, if_pos rfl, if_pos rfl]) (Ev.bind known_ev (Ev.now _))
/-- The lists of bytes, one by one. -/
theorem bytes_ev (Z : List (List Nat)) (hZ : ∀ z ∈ Z, (∀ x ∈ z, x < 256) ∧ z.length ≤ 100) (d : Nat) : ∀ i : Nat, Z.length - i = d → i ≤ Z.length → Z.length < 1000 → Ev (fun k => columbariumlaw5_RunsNumbers.l3 k (Z.map ints) (Z.length : Int) (i : Int)) true := by
 induction d with
 | zero =>
  intro i hd hi hl
  exact Ev.step (fun k => by rw [columbariumlaw5_RunsNumbers.l3, if_neg (by omega)]) last_ev
 | succ d ih =>
  intro i hd hi hl
  have hi' : i < Z.length := by omega
  have hrd : rd_L2 (Z.map ints) (i : Int) = ints (Z[i]) := by
   simp only [rd_L2, rdOf, List.getD_eq_getElem?_getD, Int.toNat_natCast, List.getElem?_map, List.getElem?_eq_getElem hi', Option.map_some, Option.getD_some]
  obtain ⟨h1, h2⟩ := hZ _ (List.getElem_mem hi')
  obtain ⟨r, ⟨R, hR, hRl, _⟩, hr1, hr2⟩ := dec_both h1 (by omega) 0 9 3
  refine Ev.step (f := fun k => (runs_Decode.f k (ints Z[i]) 0 9 3).bind fun x => (columbariumref5_Decode.f k (ints Z[i]) 0 9 3).bind fun y => ((columbariumbook_Same_uint64.f k x.1 y.1).bind fun t => (if t = true then (if x.2.1 = y.2.1 then (if x.2.2 = y.2.2 then (columbariumlaw5_RunsNumbers.l3 k (Z.map ints) (Z.length : Int) ((i + 1 : Nat) : Int)) else (some false)) else (some false)) else (some false)))) (fun k => ?_) (Ev.bind hr1 (Ev.bind hr2 ?_))
  ·rw [columbariumlaw5_RunsNumbers.l3, if_pos (by omega), if_pos (by omega), if_pos (by rw [List.length_map]; omega), hrd, succ64 (by omega)]
  ·have hs := same64_ev R R (by omega)
   rw [← hR, decide_eq_true rfl] at hs
   exact Ev.bind hs (Ev.congr (fun k => by rw [if_pos rfl, if_pos rfl, if_pos rfl]) (ih (i + 1) (by omega) (by omega) hl))
/-- The widths, one by one. -/
theorem widths_ev {M : List Nat} (hM : ∀ x ∈ M, x < 2 ^ 64) (hMl : M.length ≤ 60) (W : List Int) (hW : W.length < 1000) (S : List ByteArray) (n i : Int) (hr : Ev (fun k => columbariumlaw5_RunsNumbers.l0 k S n (wrap64 (i + 1))) true) (d : Nat) : ∀ j : Nat, W.length - j = d → j ≤ W.length →
  Ev (fun k => columbariumlaw5_RunsNumbers.l2 k (ints M) S n i W (W.length : Int) (j : Int)) true := by
 induction d with
 | zero =>
  intro j hd hj
  exact Ev.step (fun k => by rw [columbariumlaw5_RunsNumbers.l2, if_neg (by omega)]) hr
 | succ d ih =>
  intro j hd hj
  have he := enc_ev hM (by omega) (rd W (j : Int))
  have he5 := enc5_ev hM (by omega) (rd W (j : Int))
  have hz := enc_size (L := M) (by omega) (rd W (j : Int))
  obtain ⟨r, ⟨R, hR, hRl, _⟩, hr1, hr2⟩ := dec_both (enc_bytes M (rd W (j : Int))) (by omega) 0 ((ints M).length : Int) (rd W (j : Int))
  refine Ev.step (f := fun k => (runs_Encode.f k (ints M) (rd W (j : Int))).bind fun p => (columbariumref5_Encode.f k (ints M) (rd W (j : Int))).bind fun q => (runs_Decode.f k p.1 0 ((ints M).length : Int) (rd W (j : Int))).bind fun x => (columbariumref5_Decode.f k q.1 0 ((ints M).length : Int) (rd W (j : Int))).bind fun y =>
   if (strOfNums p.1).toList = (strOfNums q.1).toList then (if p.2 = q.2 then ((columbariumbook_Same_uint64.f k x.1 y.1).bind fun t => if t = true then (if x.2.1 = y.2.1 then (if x.2.2 = y.2.2 then columbariumlaw5_RunsNumbers.l2 k (ints M) S n i W (W.length : Int) ((j + 1 : Nat) : Int) else some false) else some false) else some false) else some false) else some false) (fun k => ?_) (Ev.bind he (Ev.bind he5 (Ev.bind hr1 (Ev.bind hr2 ?_))))
  ·rw [columbariumlaw5_RunsNumbers.l2, if_pos (by omega), if_pos (by omega), if_pos (by omega), succ64 (by omega)]
  ·refine Ev.congr (fun k => by rw [if_pos rfl, if_pos rfl]) ?_
   have hs := same64_ev R R (by omega)
   rw [← hR, decide_eq_true rfl] at hs
   exact Ev.bind hs (Ev.congr (fun k => by rw [if_pos rfl, if_pos rfl, if_pos rfl]) (ih (j + 1) (by omega) (by omega)))
/-- A text's numbers. -/
theorem text_ev (s : ByteArray) (hs : s.size ≤ 50) (S : List ByteArray) (n i : Int) (hr : Ev (fun k => columbariumlaw5_RunsNumbers.l0 k S n (wrap64 (i + 1))) true) (d : Nat) : ∀ (j : Nat) (M : List Nat), s.size - j = d → j ≤ s.size → M.length = j → (∀ x ∈ M, x < 2 ^ 64) →
  Ev (fun k => columbariumlaw5_RunsNumbers.l1 k s (ints M) (j : Int) S n i) true := by
 induction d with
 | zero =>
  intro j M hd hj hMl hM
  refine Ev.step (fun k => ?_) (widths_ev hM (by omega) [0, 1, 2, 4, 9, 32, 33] (by decide) S n i hr _ 0 rfl (by omega))
  rw [columbariumlaw5_RunsNumbers.l1, if_neg (by omega), Option.bind_some]
  rfl
 | succ d ih =>
  intro j M hd hj hMl hM
  obtain ⟨c, hc⟩ := Int.eq_ofNat_of_zero_le (show 0 ≤ ((bt s (j : Int)) - 48) % 256 by omega)
  refine Ev.step (fun k => ?_) (ih (j + 1) (M ++ [c]) (by omega) (by omega) (by simp [hMl]) fun x hx => ?_)
  ·rw [columbariumlaw5_RunsNumbers.l1, if_pos (by omega), if_pos (by omega), if_pos (by rw [ints_length]; omega), hc, succ64 (by omega), show [(c : Int)] = ints [c] from rfl, ints_append]
  ·rcases List.mem_append.1 hx with hx | hx
   ·exact hM x hx
   ·rw [List.mem_singleton] at hx
    omega
theorem texts_ev (S : List ByteArray) (hS : ∀ s ∈ S, s.size ≤ 50) (hl : S.length < 1000) (Z : List (List Nat)) (hr : Ev (fun k => columbariumlaw5_RunsNumbers.l0 k S (S.length : Int) (S.length : Int)) true) (d : Nat) : ∀ i : Nat, S.length - i = d → i ≤ S.length →
  Ev (fun k => columbariumlaw5_RunsNumbers.l0 k S (S.length : Int) (i : Int)) true := by
 induction d with
 | zero =>
  intro i hd hi
  obtain rfl : i = S.length := by omega
  exact hr
 | succ d ih =>
  intro i hd hi
  have hi' : i < S.length := by omega
  refine Ev.step (f := fun k => columbariumlaw5_RunsNumbers.l1 k (rdOf ByteArray.empty S (i : Int)) (ints []) ((0 : Nat) : Int) S (S.length : Int) (i : Int)) (fun k => ?_) (text_ev _ ?_ S _ _ ?_ _ 0 [] rfl (by omega) rfl (by simp))
  ·rw [columbariumlaw5_RunsNumbers.l0, if_pos (by omega), if_pos (by omega), if_pos (by omega)]
   rfl
  ·simp only [rdOf, List.getD_eq_getElem?_getD, Int.toNat_natCast, List.getElem?_eq_getElem hi', Option.getD_some]
   exact hS _ (List.getElem_mem hi')
  ·rw [succ64 (by omega)]
   exact ih (i + 1) (by omega) (by omega)
theorem RunsNumbers : columbariumlaw5_RunsNumbers.Pure := by
 refine Ev.rounds (Ev.congr (fun k => by rw [columbariumlaw5_RunsNumbers.f, Option.bind_some]) ?_)
 refine texts_ev _ (by decide +kernel) (by decide +kernel) [] (Ev.step (fun k => by rw [columbariumlaw5_RunsNumbers.l0, if_neg (by omega), Option.bind_some]) ?_) _ 0 rfl (by omega)
 exact bytes_ev [[16, 5], [14, 5], [0, 5], [1], [18], [18, 9], [3, 0], [128], [128, 0], [20, 5], [255, 255, 255, 255, 255, 255, 255, 255, 255, 1, 1]] (by decide +kernel) _ 0 rfl (by omega) (by decide +kernel)

end Go.Proofs.Ytpnnfkefddkjcaa.Pure
