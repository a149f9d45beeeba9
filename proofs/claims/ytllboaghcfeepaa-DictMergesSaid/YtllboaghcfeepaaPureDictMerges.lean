/- Dictionaries merged in any order are one; with none, or with itself, a dictionary is itself; a dictionary of a dictionary, too. No condition. -/
import Derived.Test.YtllboaghcfeepaaTDictOpsDictMerges
namespace Go.Proofs.Ytllboaghcfeepaa.Pure
open Go.RowKit Go.Proofs.Ytllboaghcfeepaa.QDictMerges Go.Proofs.YtllboaghcfeepaaW.PrintWords Go.Proofs.YtllboaghcfeepaaW.PrintLast Go.Proofs.Ytllboaghcfeepaa.Base
set_option linter.unusedVariables false
set_option linter.unusedSimpArgs false

theorem set_ext {a b : List ByteArray} (h : ∀ x, x ∈ a ↔ x ∈ b) : dict_set a = dict_set b :=
  rising_ext (set_rises a) (set_rises b) fun x => by rw [mem_set, mem_set]; exact h x
theorem rd_places {d : List ByteArray} (hd : Rising d) {i : Nat} (hi : i < d.length) : rd (d.map (place d)) (i : Int) = (i : Int) := by
  have e : place d (gt d i) = (i : Int) := by rw [place, if_pos (gt_mem d i hi), pos_gt hd hi]
  rw [rd, Int.toNat_natCast, List.getD_eq_getElem?_getD, List.getElem?_map, List.getElem?_eq_getElem hi, ← gt_get d i hi]
  exact e
theorem rd3_0 (a b c : List Int) : rd_L3 [a, b, c] 0 = a := rfl
theorem rd3_1 (a b c : List Int) : rd_L3 [a, b, c] 1 = b := rfl
theorem rd3_2 (a b c : List Int) : rd_L3 [a, b, c] 2 = c := rfl
theorem own_ev {d : List ByteArray} (hd : Rising d) (hl : d.length < 4611686018427387904) (m : Nat) : ∀ i, d.length - i = m → i ≤ d.length →
    Ev (fun k => columbariumlaw7_DictMerges.l0 k d [d.map (place d), [], d.map (place d)] (d.map (place d)) (i : Int)) true := by
  induction m with
  | zero =>
    intro i hm hi
    exact Ev.step (fun k => by rw [columbariumlaw7_DictMerges.l0, if_neg (by omega)]) (Ev.bind known_ev (Ev.now _))
  | succ m ih =>
    intro i hm hi
    have h1 : i < d.length := by omega
    refine Ev.step (fun k => ?_) (ih (i + 1) (by omega) (by omega))
    have e3 : (([d.map (place d), [], d.map (place d)] : List (List Int)).length : Int) = 3 := rfl
    rw [columbariumlaw7_DictMerges.l0, if_pos (by omega), e3, if_pos (by decide), if_pos (by omega), rd3_0, if_pos (by rw [List.length_map]; omega), rd_places hd h1, if_pos rfl, if_pos (by decide), rd3_2, if_pos (by rw [List.length_map]; omega), rd_places hd h1, if_pos rfl, if_pos (by rw [List.length_map]; omega), if_pos rfl, succ64 (by omega)]
theorem merge3_ev {x : List (List ByteArray)} {d : List ByteArray} (hx : x.length < 100) (hf : x.flatten.length < 1000) (h : dict_set x.flatten = d) : Ev (fun k => dict_Merge.f k x) (d, x.map fun l => l.map (place d)) := by
  subst h
  exact merge_ev x (by omega) (by omega)
theorem DictMerges : columbariumlaw7_DictMerges.Pure := by
  intro l0 l1 l2 _ _ _ _ _ _
  refine Ev.rounds ?_
  have f0 := fewL_length l0
  have f1 := fewL_length l1
  have f2 := fewL_length l2
  have s0 := set_length (fewL l0)
  have s1 := set_length (fewL l1)
  have s2 := set_length (fewL l2)
  have ra := set_rises (fewL l0)
  have ea := set_of_rising ra
  have b0 := build_ev (fewL l0) (by omega)
  have b1 := build_ev (fewL l1) (by omega)
  have b2 := build_ev (fewL l2) (by omega)
  have b3 := build_ev (dict_set (fewL l0)) (by omega)
  have b4 := build_ev (fewL l0 ++ fewL l1 ++ fewL l2) (by simp only [List.length_append]; omega)
  have m0 : ∀ x, x ∈ dict_set (fewL l0) ↔ x ∈ fewL l0 := fun x => mem_set
  have m1 : ∀ x, x ∈ dict_set (fewL l1) ↔ x ∈ fewL l1 := fun x => mem_set
  have m2 : ∀ x, x ∈ dict_set (fewL l2) ↔ x ∈ fewL l2 := fun x => mem_set
  generalize hA : dict_set (fewL l0) = A at *
  generalize hB : dict_set (fewL l1) = B at *
  generalize hC : dict_set (fewL l2) = C at *
  generalize hD : dict_set (fewL l0 ++ fewL l1 ++ fewL l2) = D at *
  have lD : D.length < 9223372036854775807 := by
    have := set_length (fewL l0 ++ fewL l1 ++ fewL l2)
    rw [hD] at this
    simp only [List.length_append] at this
    omega
  have t1 := merge3_ev (x := [A, B, C]) (d := D) (by simp) (by simp; omega) (by rw [← hD]; exact set_ext fun x => by simp [m0, m1, m2, or_assoc])
  have t2 := merge3_ev (x := [C, A, B, A]) (d := D) (by simp) (by simp; omega) (by
    rw [← hD]
    refine set_ext fun x => ?_
    simp only [List.flatten_cons, List.flatten_nil, List.append_nil, List.mem_append, m0, m1, m2]
    constructor
    · rintro (h | h | h | h)
      · exact .inr h
      · exact .inl (.inl h)
      · exact .inl (.inr h)
      · exact .inl (.inl h)
    · rintro ((h | h) | h)
      · exact .inr (.inl h)
      · exact .inr (.inr (.inl h))
      · exact .inl h)
  have t3 := merge3_ev (x := [A, [], A]) (d := A) (by simp) (by simp; omega) (by
    refine Eq.trans (set_ext fun x => ?_) ea
    simp)
  rw [ea] at b3
  have x1 := texts_ev D D lD
  have x2 := texts_ev A A (by omega)
  rw [decide_eq_true rfl] at x1 x2
  refine Ev.congr (fun k => rfl) (Ev.bind (few_ev l0) (Ev.bind b0 (Ev.bind (few_ev l1) (Ev.bind b1 (Ev.bind (few_ev l2) (Ev.bind b2 (Ev.bind t1 (Ev.bind t2 (Ev.bind t3 (Ev.bind b3 ?_))))))))))
  refine Ev.congr (fun k => by rw [Option.bind_some]) (Ev.bind (few_ev l0) ?_)
  refine Ev.congr (fun k => by rw [if_pos (show ([] : List ByteArray).length + (fewL l0).length < 8796093022208 by simp; omega), Option.bind_some]) (Ev.bind (few_ev l1) ?_)
  refine Ev.congr (fun k => by rw [if_pos (by simp only [List.length_append, List.length_nil]; omega), Option.bind_some]) (Ev.bind (few_ev l2) ?_)
  refine Ev.congr (fun k => by rw [if_pos (by simp only [List.length_append, List.length_nil]; omega), List.nil_append]) (Ev.bind b4 (Ev.bind x1 ?_))
  refine Ev.congr (fun k => by rw [if_pos rfl]) (Ev.bind x1 (Ev.congr (fun k => by rw [if_pos rfl]) (Ev.bind x2 (Ev.congr (fun k => by rw [if_pos rfl]) (Ev.bind x2 ?_)))))
  refine Ev.congr (f := fun k => columbariumlaw7_DictMerges.j0 k A [A.map (place A), [], A.map (place A)] (A.map (place A)) false) (fun k => ?_) ?_
  · exact (if_pos (by simp)).trans ((if_pos (by simp)).trans rfl)
  · exact Ev.step (fun k => by rw [columbariumlaw7_DictMerges.j0, if_neg Bool.false_ne_true]; rfl) (own_ev ra (by omega) _ 0 rfl (Nat.zero_le _))

end Go.Proofs.Ytllboaghcfeepaa.Pure
