/- What is in a dictionary is found at its place, all else is not; the prefix that is nothing is of all. No condition. -/
import Derived.Test.YtllboaghcfeepaaTDictOpsDictFinds
import Derived.Test.YtllboaghcfeepaaTDictFromDictFinds
import Derived.Test.YtllboaghcfeepaaTDictFitsDictFinds
namespace Go.Proofs.Ytllboaghcfeepaa.Pure
open Go.RowKit Go.Proofs.Ytllboaghcfeepaa.QDictFinds Go.Proofs.YtllboaghcfeepaaW.PrintWords Go.Proofs.YtllboaghcfeepaaW.PrintLast Go.Proofs.Ytllboaghcfeepaa.Base
set_option linter.unusedVariables false
set_option linter.unusedSimpArgs false

theorem short_l0 (d : List ByteArray) (hl : d.length < 4611686018427387904) (m : Nat) : ∀ i, d.length - i = m → Ev (fun k => columbariumlaw7_short.l0 k d (i : Int)) (!(d.drop i).any dict_long) := by
  induction m with
  | zero =>
    intro i hm
    rw [List.drop_eq_nil_of_le (by omega)]
    exact Ev.step (f := fun _ => some true) (fun k => by rw [columbariumlaw7_short.l0, if_neg (by omega)]) (Ev.now _)
  | succ m ih =>
    intro i hm
    have h1 : i < d.length := by omega
    rw [List.drop_eq_getElem_cons h1, List.any_cons, ← gt_get d i h1]
    by_cases h : 40 < (gt d i).size
    · have e : dict_long (gt d i) = true := decide_eq_true h
      rw [e, Bool.true_or, Bool.not_true]
      refine Ev.step (f := fun _ => some false) (fun k => ?_) (Ev.now _)
      rw [columbariumlaw7_short.l0, if_pos (by omega), if_pos (by omega), rd_gt, if_pos (by omega)]
    · have e : dict_long (gt d i) = false := decide_eq_false h
      rw [e, Bool.false_or]
      refine Ev.step (fun k => ?_) (ih (i + 1) (by omega))
      rw [columbariumlaw7_short.l0, if_pos (by omega), if_pos (by omega), rd_gt, if_neg (by omega), succ64 (by omega)]
theorem short_ev (d : List ByteArray) (hl : d.length < 4611686018427387904) : Ev (fun k => columbariumlaw7_short.f k d) (!d.any dict_long) := short_l0 d hl _ 0 rfl
theorem empty_begins (s : ByteArray) : Begins (⟨#[]⟩ : ByteArray) s := by
  rw [Begins]
  have e : (⟨#[]⟩ : ByteArray).toList = [] := by rw [ByteArray.toList_eq]
  rw [e]
  exact List.nil_prefix
theorem pos_empty (d : List ByteArray) : pos (⟨#[]⟩ : ByteArray) d = 0 := by
  cases d with
  | nil => rfl
  | cons x r => exact if_neg fun h => lt_begins h (empty_begins x)
theorem end_ev {d : List ByteArray} (hd : Rising d) (hl : d.length < 4611686018427387904) {p e : Nat} (h : p ≤ e) : Ev (fun k => columbariumlaw7_DictFinds.j2 k d 0 (d.length : Int) (p : Int) (e : Int) false) true := by
  refine Ev.step (fun k => by rw [columbariumlaw7_DictFinds.j2, if_neg Bool.false_ne_true, if_pos rfl, if_pos rfl, if_pos (by omega)]) (Ev.bind (fits_ev hd hl) ?_)
  by_cases h16 : d.length ≤ 16
  · refine Ev.congr (fun k => by rw [if_pos (by omega)]) (Ev.bind (short_ev d hl) ?_)
    refine Ev.congr (fun k => by rw [decide_eq_true h16, Bool.true_and, beq_self_eq_true, if_pos rfl]) (Ev.bind known_ev (Ev.now _))
  · refine Ev.congr (fun k => by rw [if_neg (by omega), decide_eq_false h16, Bool.false_and, beq_self_eq_true, if_pos rfl]) (Ev.bind known_ev (Ev.now _))
theorem froms_ev {d : List ByteArray} (hd : Rising d) (hl : d.length < 4611686018427387904) (s : ByteArray) : Ev (fun k => columbariumlaw7_DictFinds.j1 k s d (place d s) (decide (s ∈ d)) false) true := by
  obtain ⟨e0, h1, h2⟩ := from_ev hd hl (⟨#[]⟩ : ByteArray)
  obtain ⟨e1, h3, h4⟩ := from_ev hd hl s
  have e : e0 = d.length := by
    refine Nat.le_antisymm h1.2.1 (Nat.le_of_not_lt fun hlt => ?_)
    exact absurd ((h1.2.2 e0 hlt).1 (empty_begins _)).2 (Nat.lt_irrefl _)
  rw [pos_empty, e] at h2
  refine Ev.step (fun k => by rw [columbariumlaw7_DictFinds.j1, if_neg Bool.false_ne_true]) (Ev.bind h2 (Ev.bind h4 ?_))
  by_cases hm : s ∈ d
  · have hp := (mem_pos hd).1 hm
    have hlt : pos s d < e1 := ((h3.2.2 _ hp.1).1 (by rw [hp.2]; exact List.prefix_rfl)).2
    have ep : place d s = ((pos s d : Nat) : Int) := if_pos hm
    exact Ev.congr (fun k => by rw [decide_eq_true hm, if_pos rfl, ep, if_pos rfl, decide_eq_false (by omega)]; rfl) (end_ev hd hl h3.1)
  · exact Ev.congr (fun k => by rw [decide_eq_false hm, if_neg Bool.false_ne_true]; rfl) (end_ev hd hl h3.1)
theorem find_law {d : List ByteArray} (hd : Rising d) (hl : d.length < 4611686018427387904) (s : ByteArray) (m : Nat) : ∀ i (b : Bool), d.length - i = m → i ≤ d.length → (b = true ↔ s ∈ d.take i) → Ev (fun k => columbariumlaw7_DictFinds.l0 k s d b (i : Int)) true := by
  induction m with
  | zero =>
    intro i b hm hi hb
    rw [List.take_of_length_le (by omega)] at hb
    refine Ev.step (fun k => by rw [columbariumlaw7_DictFinds.l0, if_neg (by omega)]) (Ev.bind (find_ev hd hl s) ?_)
    refine Ev.congr (fun k => ?_) (froms_ev hd hl s)
    by_cases h : s ∈ d
    · have hp := (mem_pos hd).1 h
      have ep : place d s = ((pos s d : Nat) : Int) := if_pos h
      rw [hb.2 h, decide_eq_true h, ep, if_neg (by simp), if_pos rfl, if_pos (by omega), if_pos (by omega), rd_gt, if_pos (by rw [hp.2])]
    · have eb : b = false := by
        cases b
        · rfl
        · exact absurd (hb.1 rfl) h
      have ep : place d s = 0 := if_neg h
      rw [eb, decide_eq_false h, ep, if_neg (by simp), if_neg Bool.false_ne_true]
      rfl
  | succ m ih =>
    intro i b hm hi hb
    have h1 : i < d.length := by omega
    have et : d.take (i + 1) = d.take i ++ [gt d i] := by rw [List.take_succ_eq_append_getElem h1, gt_get d i h1]
    cases b with
    | true =>
      refine Ev.step (fun k => by rw [columbariumlaw7_DictFinds.l0, if_pos (by omega), if_pos rfl, succ64 (by omega)]) (ih (i + 1) true (by omega) (by omega) ?_)
      rw [et, List.mem_append]
      exact ⟨fun _ => .inl (hb.1 rfl), fun _ => rfl⟩
    | false =>
      refine Ev.step (fun k => by rw [columbariumlaw7_DictFinds.l0, if_pos (by omega), if_neg Bool.false_ne_true, if_pos (by omega), rd_gt, succ64 (by omega)]) (ih (i + 1) ((gt d i).toList == s.toList) (by omega) (by omega) ?_)
      rw [et, List.mem_append, beq_iff_eq, List.mem_singleton]
      exact ⟨fun h => .inr (ba_ext h).symm, fun h => h.elim (fun h => absurd (hb.2 h) Bool.false_ne_true) fun h => by rw [h]⟩
theorem DictFinds : columbariumlaw7_DictFinds.Pure := by
  intro l0 a1 _ _ _
  refine Ev.rounds ?_
  have hf := fewL_length l0
  have hs := set_length (fewL l0)
  refine Ev.congr (fun k => rfl) (Ev.bind (few_ev l0) (Ev.bind (build_ev _ (by omega)) ?_))
  exact find_law (set_rises _) (by omega) a1 _ 0 false rfl (Nat.zero_le _) ⟨fun h => absurd h Bool.false_ne_true, fun h => absurd h (by simp)⟩

end Go.Proofs.Ytllboaghcfeepaa.Pure
