/- Dictionaries are built, asked, merged, written and read as the document says, for any texts and bytes. No condition. -/
import Derived.Test.YtllboaghcfeepaaTDictOpsDictTells
import Derived.Test.YtllboaghcfeepaaTRefDictDictTells
import Derived.Test.YtllboaghcfeepaaTRefDictEncDictTells
namespace Go.Proofs.Ytllboaghcfeepaa.Pure
open Go.RowKit Go.Proofs.Ytllboaghcfeepaa.QDictTells Go.Proofs.YtllboaghcfeepaaW.PrintWords Go.Proofs.YtllboaghcfeepaaW.PrintLast Go.Proofs.Ytllboaghcfeepaa.Base
set_option linter.unusedVariables false
set_option linter.unusedSimpArgs false

theorem same_l0 (L : List Int) (hb : L.length < 9223372036854775807) (d : Nat) : ∀ i, L.length - i = d → Ev (fun k => columbariumbook_Same_int.l0 k L L (i : Int)) true := by
  induction d with
  | zero =>
    intro i hd
    exact Ev.step (f := fun _ => some true) (fun k => by rw [columbariumbook_Same_int.l0, if_neg (by omega)]) (Ev.now _)
  | succ d ih =>
    intro i hd
    refine Ev.step (fun k => ?_) (ih (i + 1) (by omega))
    rw [columbariumbook_Same_int.l0, if_pos (by omega), if_pos (by omega), if_pos (by omega), if_pos rfl, succ64 (by omega)]
theorem same_ev (L : List Int) (hb : L.length < 9223372036854775807) : Ev (fun k => columbariumbook_Same_int.f k L L) true :=
  Ev.congr (fun k => by rw [columbariumbook_Same_int.f, if_pos rfl]; rfl) (same_l0 L hb _ 0 rfl)
theorem texts_refl (L : List ByteArray) (hb : L.length < 9223372036854775807) : Ev (fun k => columbariumkeep_Texts.f k L L) true := by
  have := texts_ev L L hb
  rwa [decide_eq_true rfl] at this
theorem rd_L3_nat (x : List (List Int)) (i : Nat) (h : i < x.length) : rd_L3 x (i : Int) = x[i] := by
  rw [rd_L3, Int.toNat_natCast, List.getD_eq_getElem?_getD, List.getElem?_eq_getElem h]
  rfl
theorem room (i : Nat) (h : i < 2) : 140737488351232 + 810 * (i + 1) ≤ 140737488355327 := by omega
theorem bytes_l1 {x : List (List ByteArray)} (hx : ∀ l ∈ x, l.length ≤ 40) (hxl : x.length = 2) (a4 : Int) (m : Nat) : ∀ i (B : List Nat), x.length - i = m → i ≤ x.length → (∀ b ∈ B, b < 256) → B.length ≤ 140737488351232 + 810 * i →
    Ev (fun k => columbariumlaw7_DictTells.l1 k (ints B) a4 x (x.length : Int) (i : Int)) true := by
  induction m with
  | zero =>
    intro i B hm hi hB hl
    exact Ev.step (fun k => by rw [columbariumlaw7_DictTells.l1, if_neg (by omega)]) (Ev.bind known_ev (Ev.now _))
  | succ m ih =>
    intro i B hm hi hB hl
    have h1 : i < x.length := by omega
    have h40 := hx _ (List.getElem_mem h1)
    obtain ⟨X, e, F, x1, x2, x3, x4, x5, x6⟩ := encode_both (d := x[i]) (by omega)
    have hB2 : ∀ b ∈ B ++ X, b < 256 := fun b hb => (List.mem_append.1 hb).elim (hB b) (x5 b)
    have hl2 : (B ++ X).length ≤ 140737488351232 + 810 * (i + 1) := by rw [List.length_append]; omega
    have hi2 : i < 2 := hxl ▸ h1
    have hl3 : (B ++ X).length ≤ 140737488355327 := Nat.le_trans hl2 (room i hi2)
    obtain ⟨r, r1, r2, r3⟩ := decode_both (B := B ++ X) hB2 hl3 a4
    have n1 : ([] : List Int).length + (ints B).length < 140737488355328 := by rw [ints_length]; simp only [List.length_nil]; omega
    have n2 : (ints B).length + (ints X).length < 140737488355328 := by rw [ints_length, ints_length]; omega
    refine Ev.step (fun k => by rw [columbariumlaw7_DictTells.l1, if_pos (by omega), if_pos (by omega), if_pos (by omega), rd_L2_nat x i h1]) (Ev.bind x1 (Ev.bind x2 ?_))
    refine Ev.congr (fun k => by rw [if_pos rfl, if_pos rfl]) (Ev.bind x3 (Ev.bind x4 ?_))
    refine Ev.congr (f := fun k => columbariumlaw7_DictTells.j3 k (ints B) a4 (ints X) x (x.length : Int) (i : Int) false) (fun k => by rw [bne_self_eq_false]) ?_
    refine Ev.step (fun k => by rw [columbariumlaw7_DictTells.j3, if_neg Bool.false_ne_true, Option.bind_some, if_pos n1, Option.bind_some, List.nil_append, if_pos n2, Option.bind_some, ints_append, succ64 (by omega)]) (Ev.bind r2 (Ev.bind r3 (Ev.bind (texts_refl r.1 (by omega)) ?_)))
    exact Ev.congr (fun k => by rw [if_pos rfl, if_pos rfl, if_pos rfl]) (ih (i + 1) (B ++ X) (by omega) (by omega) hB2 hl2)
theorem tables_l0 {L D : List ByteArray} (hL : L.length ≤ 40) (hD : D.length ≤ 40) {B : List Nat} (hB : ∀ b ∈ B, b < 256) (hl : B.length ≤ 140737488351232) (a4 : Int) (u : List (List Int)) (hu : ∀ l ∈ u, l.length < 1000) (hul : u.length < 1000) (m : Nat) : ∀ i, u.length - i = m → i ≤ u.length →
    Ev (fun k => columbariumlaw7_DictTells.l0 k L (ints B) a4 D u u (i : Int)) true := by
  induction m with
  | zero =>
    intro i hm hi
    refine Ev.step (fun k => by rw [columbariumlaw7_DictTells.l0, if_neg (by omega), Option.bind_some]; rfl) (bytes_l1 (x := [L, D]) (fun l hl => ?_) rfl a4 _ 0 B rfl (Nat.zero_le _) hB (by omega))
    rcases List.mem_cons.1 hl with h | h
    · rw [h]
      exact hL
    · rw [List.mem_singleton.1 h]
      exact hD
  | succ m ih =>
    intro i hm hi
    have h1 : i < u.length := by omega
    have hi2 := hu _ (List.getElem_mem h1)
    refine Ev.step (fun k => by rw [columbariumlaw7_DictTells.l0, if_pos (by omega), if_pos (by omega), if_pos (by omega), rd_L3_nat u i h1, succ64 (by omega)]) (Ev.bind (same_ev _ (by omega)) ?_)
    exact Ev.congr (fun k => by rw [if_pos rfl]) (ih (i + 1) (by omega) (by omega))
theorem DictTells : columbariumlaw7_DictTells.Pure := by
  intro l0 l1 a2 l3 a4 _ _ _ _ _ _ hr hwf _
  obtain ⟨B, rfl, hB⟩ := ints_of fun x hx => wf_u8 (hwf x hx)
  rw [ints_length] at hr
  refine Ev.rounds ?_
  have f0 := fewL_length l0
  have f1 := fewL_length l1
  have s0 := set_length (fewL l0)
  have s1 := set_length (fewL l1)
  have r0 := set_rises (fewL l0)
  have b0 := build_ev (fewL l0) (by omega)
  have c0 := rbuild_ev (fewL l0) (by omega)
  have c1 := rbuild_ev (fewL l1) (by omega)
  have hm : (fewL l0).map (place (dict_set (fewL l0))) = (fewL l0).map (place (dict_set (fewL l0))) := rfl
  have lm : ((fewL l0).map (place (dict_set (fewL l0)))).length < 9223372036854775807 := by rw [List.length_map]; omega
  generalize (fewL l0).map (place (dict_set (fewL l0))) = at0 at *
  generalize dict_set (fewL l0) = D at *
  generalize (fewL l1).map (place (dict_set (fewL l1))) = at1 at *
  generalize dict_set (fewL l1) = E at *
  obtain ⟨e, h1, h2⟩ := from_ev r0 (by omega) (cut1 a2)
  have h3 := rfrom_ev r0 (by omega) (cut1 a2) h1
  have h4 := find_ev r0 (by omega) (cut1 a2)
  have h5 := rfind_ev r0 (by omega) (cut1 a2)
  have hfl : [D, E, []].flatten.length < 1000 := by simp; omega
  have h6 := merge_ev [D, E, []] (by simp) (by omega)
  have h7 := rmerge_ev [D, E, []] (by simp) hfl
  have hs := set_length [D, E, []].flatten
  have hu : ∀ l ∈ [D, E, []].map (fun l => l.map (place (dict_set [D, E, []].flatten))), l.length < 1000 := by
    intro l hl
    obtain ⟨y, hy, rfl⟩ := List.mem_map.1 hl
    rw [List.length_map]
    have := List.Sublist.length_le (List.sublist_flatten_of_mem hy)
    omega
  have hul : ([D, E, []].map (fun l => l.map (place (dict_set [D, E, []].flatten)))).length < 1000 := by simp
  generalize [D, E, []].map (fun l => l.map (place (dict_set [D, E, []].flatten))) = u at *
  generalize dict_set [D, E, []].flatten = G at *
  have hT : fewL [a2] = [cut1 a2] := rfl
  have f2 := few_ev [a2]
  rw [hT] at f2
  refine Ev.congr (fun k => rfl) (Ev.bind (few_ev l0) (Ev.bind (few_ev l1) (Ev.bind f2 ?_)))
  refine Ev.congr (fun k => by rw [if_pos (by simp)]) (Ev.bind b0 (Ev.bind c0 (Ev.bind c1 (Ev.bind h4 (Ev.bind h5 (Ev.bind h2 (Ev.bind h3 (Ev.bind h6 (Ev.bind h7 (Ev.bind (texts_refl D (by omega)) ?_))))))))))
  refine Ev.congr (fun k => by rw [if_pos rfl]) (Ev.bind (same_ev at0 lm) ?_)
  refine Ev.congr (fun k => by rw [if_pos rfl, if_pos rfl, bne_self_eq_false, if_neg Bool.false_ne_true, if_pos rfl, if_pos rfl]) (Ev.bind (texts_refl G (by omega)) ?_)
  refine Ev.congr (f := fun k => columbariumlaw7_DictTells.j0 k (fewL l0) (ints B) a4 D u u false) (fun k => by rw [if_pos rfl, bne_self_eq_false]) ?_
  exact Ev.step (fun k => by rw [columbariumlaw7_DictTells.j0, if_neg Bool.false_ne_true]; rfl) (tables_l0 f0 (by omega) hB (by omega) a4 u hu hul _ 0 rfl (Nat.zero_le _))

end Go.Proofs.Ytllboaghcfeepaa.Pure
