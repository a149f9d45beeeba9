/- columbariumbook.Same at uint64, as printed for RunsLists. -/
import Derived.Test.YtpnnfkefddkjcaaQRunsListsx
import Derived.Test.YtpnnfkefddkjcaaB1
namespace Go.Proofs.Ytpnnfkefddkjcaa.QRunsLists
open Go.RowKit Go.Proofs.YtpnnfkefddkjcaaW.PrintWords Go.Proofs.YtpnnfkefddkjcaaW.PrintLast Go.Proofs.YtpnnfkefddkjcaaW.PrintMore Go.Proofs.Ytpnnfkefddkjcaa.Base
set_option linter.unusedVariables false
set_option linter.unusedSimpArgs false

theorem same64_l0 (L M : List Nat) (hlen : L.length = M.length) (hb : L.length < 9223372036854775807) (d : Nat) : ∀ i, L.length - i = d → i ≤ L.length →
    Ev (fun k => columbariumbook_Same_uint64.l0 k (ints L) (ints M) (i : Int)) (decide (L.drop i = M.drop i)) := by
  induction d with
  | zero =>
    intro i hd hi
    have hi' : i = L.length := by omega
    refine Ev.step (f := fun _ => some true) (fun k => by rw [columbariumbook_Same_uint64.l0, if_neg (by rw [ints_length]; omega)]) ?_
    have e : decide (L.drop i = M.drop i) = true := by
      rw [hi', List.drop_length, hlen, List.drop_length]
      simp
    rw [e]
    exact Ev.now _
  | succ d ih =>
    intro i hd hi
    have h1 : i < L.length := by omega
    have h2 : i < M.length := by omega
    have eL : L.drop i = L.getD i 0 :: L.drop (i + 1) := by
      rw [List.drop_eq_getElem_cons h1, List.getD_eq_getElem?_getD, List.getElem?_eq_getElem h1]
      rfl
    have eM : M.drop i = M.getD i 0 :: M.drop (i + 1) := by
      rw [List.drop_eq_getElem_cons h2, List.getD_eq_getElem?_getD, List.getElem?_eq_getElem h2]
      rfl
    by_cases h : L.getD i 0 = M.getD i 0
    · have e : decide (L.drop i = M.drop i) = decide (L.drop (i + 1) = M.drop (i + 1)) := by
        rw [eL, eM, h]
        simp
      rw [e]
      refine Ev.step (f := fun k => columbariumbook_Same_uint64.l0 k (ints L) (ints M) ((i + 1 : Nat) : Int)) (fun k => ?_) (ih (i + 1) (by omega) (by omega))
      rw [columbariumbook_Same_uint64.l0, if_pos (by rw [ints_length]; omega), if_pos (by omega), if_pos (by rw [ints_length]; omega), rd_ints, rd_ints, h, if_pos rfl, w64 (by omega) (by omega)]
      rfl
    · have e : decide (L.drop i = M.drop i) = false := by
        rw [eL, eM]
        simp only [List.cons.injEq, h, false_and, decide_false]
      rw [e]
      refine Ev.step (f := fun _ => some false) (fun k => ?_) (Ev.now _)
      rw [columbariumbook_Same_uint64.l0, if_pos (by rw [ints_length]; omega), if_pos (by omega), if_pos (by rw [ints_length]; omega), rd_ints, rd_ints, if_neg (by omega)]
theorem same64_ev (L M : List Nat) (hb : L.length < 9223372036854775807) : Ev (fun k => columbariumbook_Same_uint64.f k (ints L) (ints M)) (decide (L = M)) := by
  by_cases h : L.length = M.length
  · refine Ev.congr (f := fun k => columbariumbook_Same_uint64.l0 k (ints L) (ints M) ((0 : Nat) : Int)) (fun k => by rw [columbariumbook_Same_uint64.f, if_pos (by rw [ints_length, ints_length]; omega)]; rfl) ?_
    have := same64_l0 L M h hb L.length 0 (by omega) (by omega)
    simpa using this
  · have e : decide (L = M) = false := decide_eq_false fun e => h (by rw [e])
    rw [e]
    exact Ev.congr (f := fun _ => some false) (fun k => by rw [columbariumbook_Same_uint64.f, if_neg (by rw [ints_length, ints_length]; omega)]) (Ev.now _)

end Go.Proofs.Ytpnnfkefddkjcaa.QRunsLists
