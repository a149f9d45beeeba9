/- A dictionary rises, each text is where its place says, nothing else is in it; what begins with a prefix stands together, where From tells; merged places are those of the same texts. No condition. -/
import Derived.Test.YtllboaghcfeepaaTDictOpsDictRules
import Derived.Test.YtllboaghcfeepaaTDictFromDictRules
namespace Go.Proofs.Ytllboaghcfeepaa.Pure
open Go.RowKit Go.Proofs.Ytllboaghcfeepaa.QDictRules Go.Proofs.YtllboaghcfeepaaW.PrintWords Go.Proofs.YtllboaghcfeepaaW.PrintLast Go.Proofs.Ytllboaghcfeepaa.Base
set_option linter.unusedVariables false
set_option linter.unusedSimpArgs false

theorem place_at {D : List ByteArray} (hd : Rising D) {s : ByteArray} (h : s ∈ D) : ∃ p : Nat, place D s = (p : Int) ∧ p < D.length ∧ gt D p = s := by
  have hp := (mem_pos hd).1 h
  exact ⟨pos s D, if_pos h, hp.1, hp.2⟩
theorem rd_map (D l : List ByteArray) {i : Nat} (hi : i < l.length) : rd (l.map (place D)) (i : Int) = place D (gt l i) := by
  rw [rd, Int.toNat_natCast, List.getD_eq_getElem?_getD, List.getElem?_map, List.getElem?_eq_getElem hi, ← gt_get l i hi]
  rfl
theorem rd2_0 (a b : List Int) : rd_L3 [a, b] 0 = a := rfl
theorem rd2_1 (a b : List Int) : rd_L3 [a, b] 1 = b := rfl
theorem len2 (a b : List Int) : (([a, b] : List (List Int)).length : Int) = 2 := rfl
theorem l3_ev {E D : List ByteArray} (hD : Rising D) (hE : ∀ s ∈ E, s ∈ D) (A : List Int) (hl : E.length < 4611686018427387904) (m : Nat) : ∀ i, E.length - i = m → i ≤ E.length →
    Ev (fun k => columbariumlaw7_DictRules.l3 k E D [A, E.map (place D)] (i : Int)) true := by
  induction m with
  | zero =>
    intro i hm hi
    exact Ev.step (fun k => by rw [columbariumlaw7_DictRules.l3, if_neg (by omega)]) (Ev.bind known_ev (Ev.now _))
  | succ m ih =>
    intro i hm hi
    have h1 : i < E.length := by omega
    obtain ⟨p, e1, e2, e3⟩ := place_at hD (hE _ (gt_mem E i h1))
    refine Ev.step (fun k => ?_) (ih (i + 1) (by omega) (by omega))
    rw [columbariumlaw7_DictRules.l3, if_pos (by omega), len2, if_pos (by decide), if_pos (by omega), rd2_1, if_pos (by rw [List.length_map]; omega), rd_map D E h1, e1, if_neg (by omega), if_neg (by omega), if_pos (by omega), if_pos (by omega), rd_gt, rd_gt, e3, if_pos rfl, succ64 (by omega)]
theorem l2_ev {C E D : List ByteArray} (hD : Rising D) (hC : ∀ s ∈ C, s ∈ D) (hE : ∀ s ∈ E, s ∈ D) (hlC : C.length < 4611686018427387904) (hl : E.length < 4611686018427387904) (m : Nat) : ∀ i, C.length - i = m → i ≤ C.length →
    Ev (fun k => columbariumlaw7_DictRules.l2 k C E D [C.map (place D), E.map (place D)] (i : Int)) true := by
  induction m with
  | zero =>
    intro i hm hi
    exact Ev.step (fun k => by rw [columbariumlaw7_DictRules.l2, if_neg (by omega)]; rfl) (l3_ev hD hE _ hl _ 0 rfl (Nat.zero_le _))
  | succ m ih =>
    intro i hm hi
    have h1 : i < C.length := by omega
    obtain ⟨p, e1, e2, e3⟩ := place_at hD (hC _ (gt_mem C i h1))
    refine Ev.step (fun k => ?_) (ih (i + 1) (by omega) (by omega))
    rw [columbariumlaw7_DictRules.l2, if_pos (by omega), len2, if_pos (by decide), if_pos (by omega), rd2_0, if_pos (by rw [List.length_map]; omega), rd_map D C h1, e1, if_neg (by omega), if_neg (by omega), if_pos (by omega), if_pos (by omega), rd_gt, rd_gt, e3, if_pos rfl, succ64 (by omega)]
theorem merged_ev {d : List ByteArray} (hd : Rising d) (hl : d.length ≤ 40) (l1 : List ByteArray) (g : Nat → Option Bool)
    (hg : ∀ k, g k = (columbariumlaw7_few.f k l1).bind fun t213 => ((dict_Build.f k t213).bind fun bt216 => ((dict_Merge.f k (([d, bt216.1] : List (List ByteArray)))).bind fun bt225 => (if (bt225.2.length : Int) = 2 then (if 0 < (bt225.2.length : Int) then (if ((rd_L3 bt225.2 0).length : Int) = (d.length : Int) then (if 1 < (bt225.2.length : Int) then (if ((rd_L3 bt225.2 1).length : Int) = (bt216.1.length : Int) then (columbariumlaw7_DictRules.j5 k d bt216.1 bt225.1 bt225.2 (decide ((bt225.1.length : Int) > (wrap64 ((d.length : Int) + (bt216.1.length : Int)))))) else (columbariumlaw7_DictRules.j5 k d bt216.1 bt225.1 bt225.2 true)) else (none)) else (columbariumlaw7_DictRules.j5 k d bt216.1 bt225.1 bt225.2 true)) else (none)) else (columbariumlaw7_DictRules.j5 k d bt216.1 bt225.1 bt225.2 true))))) : Ev g true := by
  have f1 := fewL_length l1
  have s1 := set_length (fewL l1)
  have s2 := set_length [d, dict_set (fewL l1)].flatten
  have e2 : [d, dict_set (fewL l1)].flatten.length = d.length + (dict_set (fewL l1)).length := by simp
  refine Ev.congr hg (Ev.bind (few_ev l1) (Ev.bind (build_ev _ (by omega)) (Ev.bind (merge_ev [d, dict_set (fewL l1)] (by simp) (by omega)) ?_)))
  refine Ev.congr (f := fun k => columbariumlaw7_DictRules.j5 k d (dict_set (fewL l1)) (dict_set [d, dict_set (fewL l1)].flatten) [d.map (place (dict_set [d, dict_set (fewL l1)].flatten)), (dict_set (fewL l1)).map (place (dict_set [d, dict_set (fewL l1)].flatten))] false) (fun k => ?_) ?_
  · refine (if_pos rfl).trans ((if_pos (by simp)).trans ((if_pos (by simp [rd_L3])).trans ((if_pos (by simp)).trans ((if_pos (by simp [rd_L3])).trans ?_))))
    dsimp only
    rw [w64 (by omega) (by omega), decide_eq_false (by omega)]
    rfl
  · refine Ev.step (fun k => by rw [columbariumlaw7_DictRules.j5, if_neg Bool.false_ne_true]; rfl) (l2_ev (set_rises _) (fun s hs => ?_) (fun s hs => ?_) (by omega) (by omega) _ 0 rfl (Nat.zero_le _))
    · rw [mem_set]
      simp [hs]
    · rw [mem_set]
      simp [hs]
theorem l1_ev {d : List ByteArray} (hd : Rising d) (hl : d.length ≤ 40) (l1 : List ByteArray) (p : ByteArray) {e : Nat} (he : EndsAt d p e) (m : Nat) : ∀ i, d.length - i = m → i ≤ d.length →
    Ev (fun k => columbariumlaw7_DictRules.l1 k l1 p d ((pos p d : Nat) : Int) (e : Int) (i : Int)) true := by
  induction m with
  | zero =>
    intro i hm hi
    exact Ev.step (fun k => by rw [columbariumlaw7_DictRules.l1, if_neg (by omega)]) (merged_ev hd hl l1 _ fun k => rfl)
  | succ m ih =>
    intro i hm hi
    have h1 : i < d.length := by omega
    have hnext := ih (i + 1) (by omega) (by omega)
    have hj : Ev (fun k => columbariumlaw7_DictRules.j4 k l1 p d ((pos p d : Nat) : Int) (e : Int) (i : Int) false) true := by
      have hm := gt_mem d i h1
      have ep : place d (gt d i) = (i : Int) := by rw [place, if_pos hm, pos_gt hd h1]
      have hb := he.2.2 i h1
      have hf := find_ev hd (by omega) (gt d i)
      rw [ep, decide_eq_true hm] at hf
      refine Ev.step (fun k => by rw [columbariumlaw7_DictRules.j4, if_neg Bool.false_ne_true, if_pos (by omega), if_pos (by omega), rd_gt]) (Ev.bind hf ?_)
      refine Ev.congr (fun k => ?_) hnext
      by_cases hs : p.size ≤ (gt d i).size
      · rw [if_pos (by omega), if_pos (by omega), if_pos (by omega), if_pos rfl, if_pos rfl]
        by_cases h2 : pos p d ≤ i
        · have eb := begins_b (p := p) (s := gt d i) (decide (i < e)) (by rw [decide_eq_true_eq, hb]; exact ⟨fun h => ⟨h2, h⟩, fun h => h.2⟩)
          have eb' : (((gt d i).extract 0 ((p.size : Int) : Int).toNat).toList == p.toList) = decide ((i : Int) < (e : Int)) := by
            rw [show decide ((i : Int) < (e : Int)) = decide (i < e) by simp]
            exact eb
          rw [if_pos (by omega), eb', if_neg (by simp), succ64 (by omega)]
        · have eb := begins_b (p := p) (s := gt d i) false ⟨fun h => absurd h Bool.false_ne_true, fun h => absurd (hb.1 h).1 h2⟩
          have eb' : (((gt d i).extract 0 ((p.size : Int) : Int).toNat).toList == p.toList) = false := eb
          rw [if_neg (by omega), eb', if_neg (by simp), succ64 (by omega)]
      · have hn : ¬ (pos p d ≤ i ∧ i < e) := fun h => hs (begins_size (hb.2 h))
        rw [if_neg (by omega), if_pos rfl, if_pos rfl]
        by_cases h2 : pos p d ≤ i
        · rw [if_pos (by omega), decide_eq_false (by omega), if_neg (by simp), succ64 (by omega)]
        · rw [if_neg (by omega), if_neg (by simp), succ64 (by omega)]
    by_cases h0 : 0 < i
    · have hlt := rising_lt hd (show i - 1 < i by omega) h1
      have ei : wrap64 ((i : Int) - 1) = ((i - 1 : Nat) : Int) := by rw [w64 (by omega) (by omega)]; omega
      refine Ev.step (fun k => ?_) hj
      rw [columbariumlaw7_DictRules.l1, if_pos (by omega), if_pos (by omega), ei, if_pos (by omega), if_pos (by omega), if_pos (by omega), rd_gt, rd_gt, Go.Proofs.bytesLess_eq, decide_eq_true hlt]
      rfl
    · refine Ev.step (fun k => ?_) hj
      rw [columbariumlaw7_DictRules.l1, if_pos (by omega), if_neg (by omega)]
theorem l0_ev {L d : List ByteArray} (hd : Rising d) (hl : d.length ≤ 40) (hL : L.length ≤ 40) (hm : ∀ s ∈ L, s ∈ d) (l1 : List ByteArray) (p : ByteArray) (m : Nat) : ∀ i, L.length - i = m → i ≤ L.length →
    Ev (fun k => columbariumlaw7_DictRules.l0 k L l1 p d (L.map (place d)) (i : Int)) true := by
  induction m with
  | zero =>
    intro i hm' hi
    obtain ⟨e, h1, h2⟩ := from_ev hd (by omega) p
    refine Ev.step (fun k => by rw [columbariumlaw7_DictRules.l0, if_neg (by omega)]) (Ev.bind h2 ?_)
    refine Ev.congr (f := fun k => columbariumlaw7_DictRules.j2 k l1 p d ((pos p d : Nat) : Int) (e : Int) false) (fun k => ?_) ?_
    · have a1 := h1.1
      have a2 := h1.2.1
      rw [if_neg (by omega), if_neg (by simp only; omega), decide_eq_false (by simp only; omega)]
    · exact Ev.step (fun k => by rw [columbariumlaw7_DictRules.j2, if_neg Bool.false_ne_true]; rfl) (l1_ev hd hl l1 p h1 _ 0 rfl (Nat.zero_le _))
  | succ m ih =>
    intro i hm' hi
    have h1 : i < L.length := by omega
    obtain ⟨q, e1, e2, e3⟩ := place_at hd (hm _ (gt_mem L i h1))
    refine Ev.step (fun k => ?_) (ih (i + 1) (by omega) (by omega))
    rw [columbariumlaw7_DictRules.l0, if_pos (by omega), if_pos (by omega), if_pos (by rw [List.length_map]; omega), rd_map d L h1, e1, if_neg (by omega), if_neg (by omega), if_pos (by omega), if_pos (by omega), rd_gt, rd_gt, e3, if_pos rfl, succ64 (by omega)]
theorem DictRules : columbariumlaw7_DictRules.Pure := by
  intro l0 l1 a2 _ _ _ _ _
  refine Ev.rounds ?_
  have f0 := fewL_length l0
  have s0 := set_length (fewL l0)
  refine Ev.congr (fun k => rfl) (Ev.bind (few_ev l0) (Ev.bind (build_ev _ (by omega)) ?_))
  refine Ev.congr (f := fun k => columbariumlaw7_DictRules.j0 k (fewL l0) l1 a2 (dict_set (fewL l0)) ((fewL l0).map (place (dict_set (fewL l0)))) false) (fun k => ?_) ?_
  · refine (if_pos (by simp)).trans ?_
    rw [decide_eq_false (by simp only; omega)]
  · exact Ev.step (fun k => by rw [columbariumlaw7_DictRules.j0, if_neg Bool.false_ne_true]; rfl) (l0_ev (set_rises _) (by omega) f0 (fun s hs => mem_set.2 hs) l1 a2 _ 0 rfl (Nat.zero_le _))

end Go.Proofs.Ytllboaghcfeepaa.Pure
