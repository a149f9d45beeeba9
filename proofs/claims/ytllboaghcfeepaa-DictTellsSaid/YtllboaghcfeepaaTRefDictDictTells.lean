/- The document's dictionaries come to the same, as printed for DictTells. -/
import Derived.Test.YtllboaghcfeepaaTDictFromDictTells
namespace Go.Proofs.Ytllboaghcfeepaa.QDictTells
open Go.RowKit Go.Proofs.YtllboaghcfeepaaW.PrintWords Go.Proofs.YtllboaghcfeepaaW.PrintLast Go.Proofs.YtllboaghcfeepaaW.PrintMore Go.Proofs.Ytllboaghcfeepaa.Base
set_option linter.unusedVariables false
set_option linter.unusedSimpArgs false
set_option linter.unusedSectionVars false

theorem rfind_l0 {d : List ByteArray} (hd : Rising d) (hl : d.length < 4611686018427387904) (s : ByteArray) (m : Nat) : ∀ i, d.length - i = m → (i ≤ pos s d ∨ s ∉ d) →
    Ev (fun k => columbariumref7_Find.l0 k d s (i : Int)) (place d s, decide (s ∈ d)) := by
  induction m with
  | zero =>
    intro i hm hi
    have hn : s ∉ d := fun h => by
      have := ((mem_pos hd).1 h).1
      rcases hi with hi | hi
      · omega
      · exact hi h
    have e : place d s = 0 := if_neg hn
    rw [e, decide_eq_false hn]
    exact Ev.step (f := fun _ => some ((0 : Int), false)) (fun k => by rw [columbariumref7_Find.l0, if_neg (by omega)]) (Ev.now _)
  | succ m ih =>
    intro i hm hi
    have h1 : i < d.length := by omega
    by_cases h : gt d i = s
    · have hp : pos s d = i := by rw [← h]; exact pos_gt hd h1
      have hmem : s ∈ d := h ▸ gt_mem d i h1
      have e : place d s = (i : Int) := by rw [place, if_pos hmem, hp]
      rw [e, decide_eq_true hmem]
      refine Ev.step (f := fun _ => some ((i : Int), true)) (fun k => ?_) (Ev.now _)
      rw [columbariumref7_Find.l0, if_pos (by omega), if_pos (by omega), rd_gt, if_pos (by rw [h])]
    · refine Ev.step (fun k => ?_) (ih (i + 1) (by omega) ?_)
      · rw [columbariumref7_Find.l0, if_pos (by omega), if_pos (by omega), rd_gt, if_neg (fun e => h (ba_ext e)), succ64 (by omega)]
      · by_cases hmem : s ∈ d
        · have hp := (mem_pos hd).1 hmem
          rcases hi with hi | hi
          · refine .inl (Nat.succ_le_of_lt (Nat.lt_of_le_of_ne hi fun e => h ?_))
            rw [e]
            exact hp.2
          · exact absurd hmem hi
        · exact .inr hmem
theorem rfind_ev {d : List ByteArray} (hd : Rising d) (hl : d.length < 4611686018427387904) (s : ByteArray) : Ev (fun k => columbariumref7_Find.f k d s) (place d s, decide (s ∈ d)) :=
  rfind_l0 hd hl s _ 0 rfl (.inl (Nat.zero_le _))
theorem put_pos (s : ByteArray) (d : List ByteArray) : dict_put s d = if pos s d < d.length ∧ gt d (pos s d) = s then d else d.take (pos s d) ++ [s] ++ d.drop (pos s d) := by
  induction d with
  | nil => rfl
  | cons x r ih =>
    by_cases hx : x.toList < s.toList
    · have e : pos s (x :: r) = pos s r + 1 := if_pos hx
      have eg : gt (x :: r) (pos s r + 1) = gt r (pos s r) := rfl
      rw [dict_put, Go.Proofs.bytesLess_eq, if_pos (decide_eq_true hx), ih, e, eg, List.length_cons]
      by_cases h : pos s r < r.length ∧ gt r (pos s r) = s
      · rw [if_pos h, if_pos ⟨by omega, h.2⟩]
      · rw [if_neg h, if_neg (fun h' => h ⟨by omega, h'.2⟩), List.take_succ_cons, List.drop_succ_cons]
        rfl
    · have e : pos s (x :: r) = 0 := if_neg hx
      have eg : gt (x :: r) 0 = x := rfl
      rw [dict_put, Go.Proofs.bytesLess_eq, if_neg (by simpa using hx), e, eg]
      by_cases h : x = s
      · rw [if_pos (by rw [h]), if_pos ⟨by simp, h⟩]
      · rw [if_neg (fun e => h (ba_ext e)), if_neg (fun h' => h h'.2)]
        rfl
theorem rput_l0 (d : List ByteArray) (hl : d.length < 1000000) (s : ByteArray) (m : Nat) : ∀ i, pos s d - i = m → i ≤ pos s d → Ev (fun k => columbariumref7_put.l0 k d s (i : Int)) (dict_put s d) := by
  have hle := pos_le s d
  induction m with
  | zero =>
    intro i hm hi
    obtain rfl : i = pos s d := by omega
    rw [put_pos]
    have hat := @pos_at s d
    generalize pos s d = p at *
    have l1 : (d.take p).length ≤ d.length := by rw [List.length_take]; omega
    have l2 : (d.drop p).length ≤ d.length := by rw [List.length_drop]; omega
    have n1 : ([] : List ByteArray).length + (d.take p).length < 8796093022208 := by simp only [List.length_nil]; omega
    have n2 : (d.take p).length < 8796093022208 := by omega
    have n3 : (d.take p ++ [s]).length + (d.drop p).length < 8796093022208 := by rw [List.length_append, List.length_singleton]; omega
    by_cases h : p < d.length
    · have hlt := hat h
      by_cases he : gt d p = s
      · rw [if_pos ⟨h, he⟩]
        refine Ev.step (f := fun _ => some d) (fun k => ?_) (Ev.now _)
        rw [columbariumref7_put.l0, if_pos (by omega), if_pos (by omega), rd_gt, Go.Proofs.bytesLess_eq, if_neg (by simpa using hlt), if_pos (by rw [he])]
      · rw [if_neg (fun h' => he h'.2)]
        refine Ev.step (f := fun _ => some (d.take p ++ [s] ++ d.drop p)) (fun k => ?_) (Ev.now _)
        rw [columbariumref7_put.l0, if_pos (by omega), if_pos (by omega), rd_gt, Go.Proofs.bytesLess_eq, if_neg (by simpa using hlt), if_neg (fun e => he (ba_ext e)), Option.bind_some, if_pos (by omega), Option.bind_some, Int.toNat_natCast, if_pos n1, Option.bind_some, List.nil_append, if_pos n2, Option.bind_some, Option.bind_some, if_pos n3]
    · rw [if_neg (fun h' => h h'.1)]
      refine Ev.step (f := fun _ => some (d.take p ++ [s] ++ d.drop p)) (fun k => ?_) (Ev.now _)
      rw [columbariumref7_put.l0, if_neg (by omega), Option.bind_some, if_pos (by omega), if_pos (by omega), Option.bind_some, Int.toNat_natCast, if_pos n1, Option.bind_some, List.nil_append, if_pos n2, Option.bind_some, Option.bind_some, if_pos n3]
  | succ m ih =>
    intro i hm hi
    have h1 : i < pos s d := by omega
    refine Ev.step (fun k => ?_) (ih (i + 1) (by omega) (by omega))
    rw [columbariumref7_put.l0, if_pos (by omega), if_pos (by omega), rd_gt, Go.Proofs.bytesLess_eq, if_pos (decide_eq_true (pos_lt h1)), succ64 (by omega)]
theorem rput_ev (d : List ByteArray) (hl : d.length < 1000000) (s : ByteArray) : Ev (fun k => columbariumref7_put.f k d s) (dict_put s d) := rput_l0 d hl s _ 0 rfl (Nat.zero_le _)
def putAll (l d : List ByteArray) : List ByteArray := l.foldl (fun d s => dict_put s d) d
theorem rbuild_l1 {D : List ByteArray} (hd : Rising D) (hl : D.length < 4611686018427387904) (l : List ByteArray) (hll : l.length < 1000) (m : Nat) : ∀ i (acc : List Int), l.length - i = m → i ≤ l.length → acc.length = i →
    Ev (fun k => columbariumref7_Build.l1 k l D acc (i : Int)) (D, acc ++ (l.drop i).map (place D)) := by
  induction m with
  | zero =>
    intro i acc hm hi ha
    rw [List.drop_eq_nil_of_le (by omega), List.map_nil, List.append_nil]
    exact Ev.step (f := fun _ => some (D, acc)) (fun k => by rw [columbariumref7_Build.l1, if_neg (by omega)]) (Ev.now _)
  | succ m ih =>
    intro i acc hm hi ha
    have hi' : i < l.length := by omega
    refine Ev.step (fun k => by rw [columbariumref7_Build.l1, if_pos (by omega), if_pos (by omega), rd_gt, succ64 (by omega)]) (Ev.bind (rfind_ev hd hl _) ?_)
    have := ih (i + 1) (acc ++ [place D (gt l i)]) (by omega) (by omega) (by rw [List.length_append, ha]; rfl)
    rw [List.append_assoc] at this
    rw [List.drop_eq_getElem_cons hi', List.map_cons, ← gt_get l i hi']
    exact Ev.congr (fun k => by rw [if_pos (show acc.length < 17592186044416 by omega)]) this
theorem rbuild_l0 {D : List ByteArray} (hd : Rising D) (hl : D.length < 4611686018427387904) (l : List ByteArray) (hll : l.length < 1000) (m : Nat) : ∀ i (acc : List ByteArray), l.length - i = m → i ≤ l.length → acc.length ≤ i → putAll (l.drop i) acc = D →
    Ev (fun k => columbariumref7_Build.l0 k l acc (i : Int)) (D, l.map (place D)) := by
  induction m with
  | zero =>
    intro i acc hm hi ha h
    rw [List.drop_eq_nil_of_le (by omega)] at h
    obtain rfl : acc = D := h
    exact Ev.step (fun k => by rw [columbariumref7_Build.l0, if_neg (by omega)]; rfl) (rbuild_l1 hd hl l hll _ 0 [] rfl (Nat.zero_le _) rfl)
  | succ m ih =>
    intro i acc hm hi ha h
    have hi' : i < l.length := by omega
    have hp := put_length (gt l i) acc
    rw [List.drop_eq_getElem_cons hi', ← gt_get l i hi'] at h
    refine Ev.step (fun k => by rw [columbariumref7_Build.l0, if_pos (by omega), if_pos (by omega), rd_gt, succ64 (by omega)]) (Ev.bind (rput_ev acc (by omega) _) ?_)
    exact ih (i + 1) _ (by omega) (by omega) (by omega) h
theorem rbuild_ev (l : List ByteArray) (hll : l.length < 1000) : Ev (fun k => columbariumref7_Build.f k l) (dict_set l, l.map (place (dict_set l))) := by
  have h := set_length l
  exact rbuild_l0 (set_rises l) (by omega) l hll _ 0 [] rfl (Nat.zero_le _) (Nat.zero_le _) rfl
theorem rbegins_f (s p : ByteArray) : ∃ b, columbariumref7_Begins.f s p = some b ∧ (b = true ↔ Begins p s) := by
  by_cases h : p.size ≤ s.size
  · refine ⟨_, by rw [columbariumref7_Begins.f, if_pos (by omega), if_pos (by omega), if_pos (by omega)], ?_⟩
    rw [beq_iff_eq, begins_iff]
    rfl
  · refine ⟨false, by rw [columbariumref7_Begins.f, if_neg (by omega)], ?_⟩
    exact ⟨fun h => absurd h Bool.false_ne_true, fun hb => absurd (begins_size hb) h⟩
theorem rfrom_l1 {d : List ByteArray} (hd : Rising d) (hl : d.length < 4611686018427387904) (p : ByteArray) {e : Nat} (he : EndsAt d p e) (m : Nat) : ∀ i, e - i = m → pos p d ≤ i → i ≤ e →
    Ev (fun k => columbariumref7_From.l1 k d p ((pos p d : Nat) : Int) (i : Int)) (((pos p d : Nat) : Int), (e : Int)) := by
  have hle := he.2.1
  induction m with
  | zero =>
    intro i hm h1 h2
    obtain rfl : i = e := by omega
    refine Ev.step (f := fun _ => some (((pos p d : Nat) : Int), (i : Int))) (fun k => ?_) (Ev.now _)
    by_cases h : i < d.length
    · obtain ⟨b, hb1, hb2⟩ := rbegins_f (gt d i) p
      have hb : ¬ b = true := fun hb => absurd ((he.2.2 i h).1 (hb2.1 hb)).2 (Nat.lt_irrefl _)
      rw [columbariumref7_From.l1, if_pos (by omega), if_pos (by omega), rd_gt, hb1, Option.bind_some, if_neg hb]
    · rw [columbariumref7_From.l1, if_neg (by omega)]
  | succ m ih =>
    intro i hm h1 h2
    obtain ⟨b, hb1, hb2⟩ := rbegins_f (gt d i) p
    have hb := hb2.2 ((he.2.2 i (by omega)).2 ⟨h1, by omega⟩)
    refine Ev.step (fun k => ?_) (ih (i + 1) (by omega) (by omega) (by omega))
    rw [columbariumref7_From.l1, if_pos (by omega), if_pos (by omega), rd_gt, hb1, Option.bind_some, if_pos hb, succ64 (by omega)]
theorem rfrom_l0 {d : List ByteArray} (hd : Rising d) (hl : d.length < 4611686018427387904) (p : ByteArray) {e : Nat} (he : EndsAt d p e) (m : Nat) : ∀ i, pos p d - i = m → i ≤ pos p d →
    Ev (fun k => columbariumref7_From.l0 k d p (i : Int)) (((pos p d : Nat) : Int), (e : Int)) := by
  have hle := pos_le p d
  have hat := @pos_at p d
  induction m with
  | zero =>
    intro i hm hi
    obtain rfl : i = pos p d := by omega
    refine Ev.step (f := fun k => columbariumref7_From.j1 k d p ((pos p d : Nat) : Int)) (fun k => ?_) (Ev.step (fun k => by rw [columbariumref7_From.j1]) (rfrom_l1 hd hl p he _ _ rfl (Nat.le_refl _) he.1))
    by_cases h : pos p d < d.length
    · rw [columbariumref7_From.l0, if_pos (by omega), if_pos (by omega), rd_gt, Go.Proofs.bytesLess_eq, if_neg (by simpa using hat h)]
    · rw [columbariumref7_From.l0, if_neg (by omega)]
  | succ m ih =>
    intro i hm hi
    have h1 : i < pos p d := by omega
    refine Ev.step (fun k => ?_) (ih (i + 1) (by omega) (by omega))
    rw [columbariumref7_From.l0, if_pos (by omega), if_pos (by omega), rd_gt, Go.Proofs.bytesLess_eq, if_pos (decide_eq_true (pos_lt h1)), succ64 (by omega)]
theorem rfrom_ev {d : List ByteArray} (hd : Rising d) (hl : d.length < 4611686018427387904) (p : ByteArray) {e : Nat} (he : EndsAt d p e) : Ev (fun k => columbariumref7_From.f k d p) (((pos p d : Nat) : Int), (e : Int)) :=
  rfrom_l0 hd hl p he _ 0 rfl (Nat.zero_le _)
/-! ### Merge -/
section
variable {x : List (List ByteArray)} {D : List ByteArray} (hd : Rising D) (hl : D.length < 4611686018427387904) (hx : x.length < 1000) (hxl : ∀ l ∈ x, l.length < 1000)
include hd hl hx hxl
theorem rmerge_l3 (i : Nat) (hi : i < x.length) (at_ : List (List Int)) (hat : at_.length = i) (r : List ByteArray × List (List Int))
    (hr : Ev (fun k => columbariumref7_Merge.l2 k x D (at_ ++ [x[i].map (place D)]) ((i + 1 : Nat) : Int)) r) (m : Nat) : ∀ j (acc : List Int), x[i].length - j = m → j ≤ x[i].length → acc.length = j → acc ++ (x[i].drop j).map (place D) = x[i].map (place D) →
    Ev (fun k => columbariumref7_Merge.l3 k x D at_ (i : Int) acc (j : Int)) r := by
  have hli := hxl _ (List.getElem_mem hi)
  induction m with
  | zero =>
    intro j acc hm hj ha h
    rw [List.drop_eq_nil_of_le (by omega), List.map_nil, List.append_nil] at h
    refine Ev.step (fun k => ?_) hr
    rw [columbariumref7_Merge.l3, if_pos (by omega), if_pos (by omega), rd_L2_nat x i hi, if_neg (by omega), if_pos (by omega), succ64 (by omega), h]
  | succ m ih =>
    intro j acc hm hj ha h
    have hj' : j < x[i].length := by omega
    refine Ev.step (fun k => by rw [columbariumref7_Merge.l3, if_pos (by omega), if_pos (by omega), rd_L2_nat x i hi, if_pos (by omega), if_pos (by omega), rd_gt, succ64 (by omega)]) (Ev.bind (rfind_ev hd hl _) ?_)
    refine Ev.congr (fun k => by rw [if_pos (show acc.length < 17592186044416 by omega)]) (ih (j + 1) (acc ++ [place D (gt x[i] j)]) (by omega) (by omega) (by rw [List.length_append, ha]; rfl) ?_)
    rw [List.drop_eq_getElem_cons hj', List.map_cons, ← gt_get x[i] j hj'] at h
    rw [List.append_assoc]
    exact h
theorem rmerge_l2 (m : Nat) : ∀ i (at_ : List (List Int)), x.length - i = m → i ≤ x.length → at_.length = i →
    Ev (fun k => columbariumref7_Merge.l2 k x D at_ (i : Int)) (D, at_ ++ (x.drop i).map fun l => l.map (place D)) := by
  induction m with
  | zero =>
    intro i at_ hm hi ha
    rw [List.drop_eq_nil_of_le (by omega), List.map_nil, List.append_nil]
    exact Ev.step (f := fun _ => some (D, at_)) (fun k => by rw [columbariumref7_Merge.l2, if_neg (by omega)]) (Ev.now _)
  | succ m ih =>
    intro i at_ hm hi ha
    have hi' : i < x.length := by omega
    have hn := ih (i + 1) (at_ ++ [x[i].map (place D)]) (by omega) (by omega) (by rw [List.length_append, ha]; rfl)
    rw [List.append_assoc] at hn
    rw [List.drop_eq_getElem_cons hi', List.map_cons]
    exact Ev.step (fun k => by rw [columbariumref7_Merge.l2, if_pos (by omega)]; rfl) (rmerge_l3 hd hl hx hxl i hi' at_ ha _ hn _ 0 [] rfl (Nat.zero_le _) rfl rfl)
theorem rmerge_l1 (hf : x.flatten.length < 1000) (i : Nat) (hi : i < x.length) (r : List ByteArray × List (List Int))
    (hr : ∀ acc : List ByteArray, acc.length + (x.drop (i + 1)).flatten.length < 1000 → putAll (x.drop (i + 1)).flatten acc = D → Ev (fun k => columbariumref7_Merge.l0 k x acc ((i + 1 : Nat) : Int)) r) (m : Nat) : ∀ j (acc : List ByteArray), x[i].length - j = m → j ≤ x[i].length → acc.length + (x[i].drop j).length + (x.drop (i + 1)).flatten.length < 1000 → putAll (x[i].drop j ++ (x.drop (i + 1)).flatten) acc = D →
    Ev (fun k => columbariumref7_Merge.l1 k x acc (i : Int) (j : Int)) r := by
  have hli := hxl _ (List.getElem_mem hi)
  induction m with
  | zero =>
    intro j acc hm hj ha h
    rw [List.drop_eq_nil_of_le (by omega)] at h ha
    refine Ev.step (fun k => ?_) (hr acc (by simpa using ha) h)
    rw [columbariumref7_Merge.l1, if_pos (by omega), if_pos (by omega), rd_L2_nat x i hi, if_neg (by omega), succ64 (by omega)]
  | succ m ih =>
    intro j acc hm hj ha h
    have hj' : j < x[i].length := by omega
    have hp := put_length (gt x[i] j) acc
    have hdl : (x[i].drop j).length = (x[i].drop (j + 1)).length + 1 := by rw [List.length_drop, List.length_drop]; omega
    rw [List.drop_eq_getElem_cons hj', ← gt_get x[i] j hj'] at h
    refine Ev.step (fun k => by rw [columbariumref7_Merge.l1, if_pos (by omega), if_pos (by omega), rd_L2_nat x i hi, if_pos (by omega), if_pos (by omega), rd_gt, succ64 (by omega)]) (Ev.bind (rput_ev acc (by omega) _) ?_)
    exact ih (j + 1) _ (by omega) (by omega) (by omega) h
theorem rmerge_l0 (hf : x.flatten.length < 1000) (m : Nat) : ∀ i (acc : List ByteArray), x.length - i = m → i ≤ x.length → acc.length + (x.drop i).flatten.length < 1000 → putAll (x.drop i).flatten acc = D →
    Ev (fun k => columbariumref7_Merge.l0 k x acc (i : Int)) (D, x.map fun l => l.map (place D)) := by
  induction m with
  | zero =>
    intro i acc hm hi ha h
    rw [List.drop_eq_nil_of_le (by omega)] at h
    obtain rfl : acc = D := h
    exact Ev.step (fun k => by rw [columbariumref7_Merge.l0, if_neg (by omega)]; rfl) (rmerge_l2 hd hl hx hxl _ 0 [] rfl (Nat.zero_le _) rfl)
  | succ m ih =>
    intro i acc hm hi ha h
    have hi' : i < x.length := by omega
    rw [List.drop_eq_getElem_cons hi', List.flatten_cons] at h ha
    rw [List.length_append] at ha
    exact Ev.step (fun k => by rw [columbariumref7_Merge.l0, if_pos (by omega)]; rfl) (rmerge_l1 hd hl hx hxl hf i hi' _ (fun acc ha h => ih (i + 1) acc (by omega) (by omega) ha h) _ 0 acc rfl (Nat.zero_le _) (by rw [List.drop_zero]; omega) (by rw [List.drop_zero]; exact h))
end
theorem rmerge_ev (x : List (List ByteArray)) (hx : x.length < 1000) (hf : x.flatten.length < 1000) : Ev (fun k => columbariumref7_Merge.f k x) (dict_set x.flatten, x.map fun l => l.map (place (dict_set x.flatten))) := by
  have h := set_length x.flatten
  refine rmerge_l0 (set_rises _) (by omega) hx (fun l hl => ?_) hf _ 0 [] rfl (Nat.zero_le _) (by rw [List.drop_zero]; simp only [List.length_nil]; omega) rfl
  have := List.Sublist.length_le (List.sublist_flatten_of_mem hl)
  omega

end Go.Proofs.Ytllboaghcfeepaa.QDictTells
