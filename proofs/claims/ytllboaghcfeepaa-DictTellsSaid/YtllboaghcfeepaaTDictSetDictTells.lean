/- The texts of a dictionary: their order, their places, as printed for DictTells. -/
import Derived.Test.YtllboaghcfeepaaQDictTellsx
import Derived.Test.YtllboaghcfeepaaB0
namespace Go.Proofs.Ytllboaghcfeepaa.QDictTells
open Go.RowKit Go.Proofs.YtllboaghcfeepaaW.PrintWords Go.Proofs.YtllboaghcfeepaaW.PrintLast Go.Proofs.YtllboaghcfeepaaW.PrintMore Go.Proofs.Ytllboaghcfeepaa.Base
set_option linter.unusedVariables false
set_option linter.unusedSimpArgs false

/-- The text at a place. -/
def gt (d : List ByteArray) (i : Nat) : ByteArray := d.getD i ByteArray.empty
theorem rd_gt (d : List ByteArray) (i : Nat) : rdOf ByteArray.empty d (i : Int) = gt d i := rfl
theorem gt_get (d : List ByteArray) (i : Nat) (h : i < d.length) : gt d i = d[i] := by
  rw [gt, List.getD_eq_getElem?_getD, List.getElem?_eq_getElem h]
  rfl
theorem gt_mem (d : List ByteArray) (i : Nat) (h : i < d.length) : gt d i ∈ d := by
  rw [gt_get d i h]
  exact List.getElem_mem h
theorem mem_gt {d : List ByteArray} {s : ByteArray} (h : s ∈ d) : ∃ i, i < d.length ∧ gt d i = s := by
  obtain ⟨i, hi, e⟩ := List.getElem_of_mem h
  exact ⟨i, hi, by rw [gt_get d i hi, e]⟩
theorem ba_ext {a b : ByteArray} (h : a.toList = b.toList) : a = b := by
  rw [ByteArray.toList_eq, ByteArray.toList_eq] at h
  obtain ⟨⟨a⟩⟩ := a
  obtain ⟨⟨b⟩⟩ := b
  exact congrArg (fun z => ByteArray.mk (Array.mk z)) h
theorem ba_iff {a b : ByteArray} : a.toList = b.toList ↔ a = b := ⟨ba_ext, fun h => by rw [h]⟩
instance : DecidableEq ByteArray := fun a b => decidable_of_iff (a.toList = b.toList) ba_iff
instance (s : ByteArray) (d : List ByteArray) : Decidable (s ∈ d) := decidable_of_iff (d.any (fun x => decide (x = s)) = true) (by simp)
theorem beq_iff {a b : ByteArray} : (a.toList == b.toList) = decide (a = b) := by
  by_cases h : a = b
  · subst h
    simp
  · rw [decide_eq_false h]
    exact beq_eq_false_iff_ne.mpr fun e => h (ba_ext e)
/-- Texts that rise. -/
def Rising (d : List ByteArray) : Prop := d.Pairwise fun a b => a.toList < b.toList
theorem set_map (l : List ByteArray) : (dict_set l).map (·.data.toList) = (l.map (·.data.toList)).foldl (fun d s => DictSort.put s d) [] := DictSort.fold_map l []
theorem set_rises (l : List ByteArray) : Rising (dict_set l) := by
  have h := (DictSort.fold_rises (l.map (·.data.toList)) [] List.Pairwise.nil).1
  rw [← set_map, List.pairwise_map] at h
  exact h.imp fun h => by rw [ByteArray.toList_eq, ByteArray.toList_eq]; exact h
theorem mem_data {l : List ByteArray} {x : ByteArray} : x.data.toList ∈ l.map (·.data.toList) ↔ x ∈ l := by
  constructor
  · intro h
    obtain ⟨y, hy, e⟩ := List.mem_map.1 h
    have : y = x := ba_ext (by rw [ByteArray.toList_eq, ByteArray.toList_eq]; exact e)
    exact this ▸ hy
  · exact fun h => List.mem_map.2 ⟨x, h, rfl⟩
theorem mem_set {l : List ByteArray} {x : ByteArray} : x ∈ dict_set l ↔ x ∈ l := by
  have h := (DictSort.fold_rises (l.map (·.data.toList)) [] List.Pairwise.nil).2 x.data.toList
  rw [← set_map, mem_data, mem_data] at h
  simpa using h
theorem rising_ext {a b : List ByteArray} (ha : Rising a) (hb : Rising b) (h : ∀ x, x ∈ a ↔ x ∈ b) : a = b := by
  have e : a.map (·.data.toList) = b.map (·.data.toList) := by
    refine DictSort.rising_eq ?_ ?_ fun x => ?_
    · rw [List.pairwise_map]
      exact ha.imp fun h => by rw [ByteArray.toList_eq, ByteArray.toList_eq] at h; exact h
    · rw [List.pairwise_map]
      exact hb.imp fun h => by rw [ByteArray.toList_eq, ByteArray.toList_eq] at h; exact h
    · have := h (dict_str x)
      rw [← mem_data, ← mem_data (l := b)] at this
      exact this
  have e2 := congrArg (List.map dict_str) e
  rw [List.map_map, List.map_map] at e2
  exact (List.map_id a).symm.trans (e2.trans (List.map_id b))
theorem set_of_rising {d : List ByteArray} (h : Rising d) : dict_set d = d := rising_ext (set_rises d) h fun x => mem_set
theorem put_length (s : ByteArray) (l : List ByteArray) : (dict_put s l).length ≤ l.length + 1 := by
  induction l with
  | nil => simp [dict_put]
  | cons x r ih =>
    rw [dict_put]
    split
    · simp only [List.length_cons]
      omega
    · split <;> simp only [List.length_cons] <;> omega
theorem fold_length (l : List ByteArray) : ∀ d : List ByteArray, (l.foldl (fun d s => dict_put s d) d).length ≤ d.length + l.length := by
  induction l with
  | nil => exact fun d => by simp
  | cons s r ih =>
    intro d
    have h1 := ih (dict_put s d)
    have h2 := put_length s d
    simp only [List.foldl_cons, List.length_cons]
    omega
theorem set_length (l : List ByteArray) : (dict_set l).length ≤ l.length := by
  have := fold_length l []
  simpa [dict_set] using this
theorem rising_lt {d : List ByteArray} (h : Rising d) {i j : Nat} (hij : i < j) (hj : j < d.length) : (gt d i).toList < (gt d j).toList := by
  rw [gt_get d i (by omega), gt_get d j hj]
  exact List.pairwise_iff_getElem.1 h i j (by omega) hj hij
/-- How many texts are less, of the first ones. -/
def pos (s : ByteArray) : List ByteArray → Nat
  | [] => 0
  | x :: r => if x.toList < s.toList then pos s r + 1 else 0
theorem pos_le (s : ByteArray) (d : List ByteArray) : pos s d ≤ d.length := by
  induction d with
  | nil => exact Nat.le_refl _
  | cons x r ih =>
    rw [pos]
    split <;> simp only [List.length_cons] <;> omega
theorem pos_lt {s : ByteArray} {d : List ByteArray} {i : Nat} (h : i < pos s d) : (gt d i).toList < s.toList := by
  induction d generalizing i with
  | nil => exact absurd h (by simp [pos])
  | cons x r ih =>
    rw [pos] at h
    split at h
    · rename_i hx
      cases i with
      | zero => exact hx
      | succ i => exact ih (i := i) (by omega)
    · omega
theorem pos_at {s : ByteArray} {d : List ByteArray} (h : pos s d < d.length) : ¬ (gt d (pos s d)).toList < s.toList := by
  induction d with
  | nil => exact absurd h (by simp [pos])
  | cons x r ih =>
    by_cases hx : x.toList < s.toList
    · have e : pos s (x :: r) = pos s r + 1 := by rw [pos, if_pos hx]
      rw [e] at h ⊢
      exact ih (by simpa using h)
    · have e : pos s (x :: r) = 0 := by rw [pos, if_neg hx]
      rw [e]
      exact hx
theorem pos_ge {s : ByteArray} {d : List ByteArray} (hd : Rising d) {i : Nat} (h : pos s d ≤ i) (hi : i < d.length) : ¬ (gt d i).toList < s.toList := by
  by_cases e : pos s d = i
  · subst e
    exact pos_at hi
  · exact fun hlt => pos_at (s := s) (d := d) (by omega) (List.lt_trans (rising_lt hd (by omega) hi) hlt)
theorem pos_gt {d : List ByteArray} (hd : Rising d) {i : Nat} (hi : i < d.length) : pos (gt d i) d = i := by
  rcases Nat.lt_trichotomy (pos (gt d i) d) i with h | h | h
  · exact absurd (rising_lt hd h hi) (pos_at (by omega))
  · exact h
  · exact absurd (pos_lt h) (List.lt_irrefl _)
theorem mem_pos {s : ByteArray} {d : List ByteArray} (hd : Rising d) : s ∈ d ↔ pos s d < d.length ∧ gt d (pos s d) = s := by
  constructor
  · intro h
    obtain ⟨i, hi, rfl⟩ := mem_gt h
    rw [pos_gt hd hi]
    exact ⟨hi, rfl⟩
  · rintro ⟨h1, h2⟩
    rw [← h2]
    exact gt_mem d _ h1
theorem less_f (a b : ByteArray) : cmp_Less_string.f a b = some (decide (a.toList < b.toList)) := by
  unfold cmp_Less_string.f cmp_isNaN_string.f
  rw [bne_self_eq_false, Option.bind_some, if_neg (by decide), Go.Proofs.bytesLess_eq]
theorem nan_f (a : ByteArray) : slices_isNaN_string.f a = some false := by
  unfold slices_isNaN_string.f
  rw [bne_self_eq_false]
theorem half (lo hi : Nat) (h : lo + hi < 9223372036854775808) : wrap64 ((IntKind.u64.wrap (wrap64 ((lo : Int) + (hi : Int)))) / 2) = (((lo + hi) / 2 : Nat) : Int) := by
  have e1 : wrap64 ((lo : Int) + (hi : Int)) = ((lo + hi : Nat) : Int) := by rw [w64 (by omega) (by omega)]; omega
  have e2 : IntKind.u64.wrap ((lo + hi : Nat) : Int) = ((lo + hi : Nat) : Int) := wu64 (by omega) (by omega)
  rw [e1, e2, show ((lo + hi : Nat) : Int) / 2 = (((lo + hi) / 2 : Nat) : Int) by omega, w64 (by omega) (by omega)]
theorem search_l0 {d : List ByteArray} (hd : Rising d) (hl : d.length < 4611686018427387904) (s : ByteArray) (m : Nat) : ∀ lo hi, hi - lo ≤ m → lo ≤ pos s d → pos s d ≤ hi → hi ≤ d.length →
    Ev (fun k => slices_BinarySearch_string_string.l0 k d s (d.length : Int) (lo : Int) (hi : Int)) (((pos s d : Nat) : Int), decide (s ∈ d)) := by
  induction m with
  | zero =>
    intro lo hi h1 h2 h3 h4
    have e : lo = pos s d := by omega
    subst e
    have hmem := mem_pos (s := s) hd
    by_cases h5 : pos s d < d.length
    · by_cases h6 : gt d (pos s d) = s
      · refine Ev.step (f := fun _ => some (((pos s d : Nat) : Int), decide (s ∈ d))) (fun k => ?_) (Ev.now _)
        rw [slices_BinarySearch_string_string.l0, if_neg (by omega), if_pos (by omega), if_pos (by omega), if_pos (by omega), rd_gt, if_pos (by rw [h6]), decide_eq_true (hmem.2 ⟨h5, h6⟩)]
      · refine Ev.step (f := fun _ => some (((pos s d : Nat) : Int), decide (s ∈ d))) (fun k => ?_) (Ev.now _)
        rw [slices_BinarySearch_string_string.l0, if_neg (by omega), if_pos (by omega), if_pos (by omega), if_pos (by omega), rd_gt, if_neg (fun e => h6 (ba_ext e)), nan_f, Option.bind_some, if_neg (by decide), decide_eq_false (fun h => h6 (hmem.1 h).2)]
    · refine Ev.step (f := fun _ => some (((pos s d : Nat) : Int), decide (s ∈ d))) (fun k => ?_) (Ev.now _)
      rw [slices_BinarySearch_string_string.l0, if_neg (by omega), if_neg (by omega), decide_eq_false (fun h => h5 (hmem.1 h).1)]
  | succ m ih =>
    intro lo hi h1 h2 h3 h4
    by_cases h : lo < hi
    · have hh := half lo hi (by omega)
      by_cases hx : (gt d ((lo + hi) / 2)).toList < s.toList
      · have h5 : (lo + hi) / 2 < pos s d := Nat.lt_of_not_le fun hle => pos_ge hd hle (by omega) hx
        refine Ev.step (f := fun k => slices_BinarySearch_string_string.l0 k d s (d.length : Int) (((lo + hi) / 2 + 1 : Nat) : Int) (hi : Int)) (fun k => ?_) (ih _ _ (by omega) (by omega) h3 h4)
        rw [slices_BinarySearch_string_string.l0, if_pos (by omega), hh, if_pos (by omega), if_pos (by omega), rd_gt, less_f, Option.bind_some, decide_eq_true hx, if_pos rfl, succ64 (by omega)]
      · have h5 : pos s d ≤ (lo + hi) / 2 := Nat.le_of_not_lt fun hlt => hx (pos_lt hlt)
        refine Ev.step (f := fun k => slices_BinarySearch_string_string.l0 k d s (d.length : Int) (lo : Int) (((lo + hi) / 2 : Nat) : Int)) (fun k => ?_) (ih _ _ (by omega) h2 h5 (by omega))
        rw [slices_BinarySearch_string_string.l0, if_pos (by omega), hh, if_pos (by omega), if_pos (by omega), rd_gt, less_f, Option.bind_some, decide_eq_false hx, if_neg (by decide)]
    · exact Ev.congr (fun k => rfl) (by
        have := ih lo hi (by omega) h2 h3 h4
        exact this)
theorem search_ev {d : List ByteArray} (hd : Rising d) (hl : d.length < 4611686018427387904) (s : ByteArray) : Ev (fun k => slices_BinarySearch_string_string.f k d s) (((pos s d : Nat) : Int), decide (s ∈ d)) :=
  search_l0 hd hl s d.length 0 d.length (by omega) (by omega) (pos_le s d) (Nat.le_refl _)
/-- Where a text is. -/
def place (d : List ByteArray) (s : ByteArray) : Int := if s ∈ d then ((pos s d : Nat) : Int) else 0
theorem find_ev {d : List ByteArray} (hd : Rising d) (hl : d.length < 4611686018427387904) (s : ByteArray) : Ev (fun k => dict_Find.f k d s) (place d s, decide (s ∈ d)) := by
  refine Ev.congr (f := fun k => (slices_BinarySearch_string_string.f k d s).bind fun bt => if bt.2 = true then some (bt.1, true) else some (0, false)) (fun k => rfl) (Ev.bind (search_ev hd hl s) ?_)
  by_cases h : s ∈ d
  · exact Ev.congr (f := fun _ => some (place d s, decide (s ∈ d))) (fun k => by rw [place, if_pos h, decide_eq_true h, if_pos rfl]) (Ev.now _)
  · exact Ev.congr (f := fun _ => some (place d s, decide (s ∈ d))) (fun k => by rw [place, if_neg h, decide_eq_false h, if_neg Bool.false_ne_true]) (Ev.now _)
theorem places_l0 {d : List ByteArray} (hd : Rising d) (hl : d.length < 4611686018427387904) (l : List ByteArray) (hll : l.length < 17592186044416) (m : Nat) : ∀ i (acc : List Int), l.length - i = m → i ≤ l.length → acc.length = i →
    Ev (fun k => dict_places.l0 k d acc l (l.length : Int) (i : Int)) (acc ++ (l.drop i).map (place d)) := by
  induction m with
  | zero =>
    intro i acc hm hi ha
    refine Ev.step (f := fun _ => some acc) (fun k => by rw [dict_places.l0, if_neg (by omega)]) ?_
    rw [List.drop_eq_nil_of_le (by omega), List.map_nil, List.append_nil]
    exact Ev.now _
  | succ m ih =>
    intro i acc hm hi ha
    have hi' : i < l.length := by omega
    refine Ev.step (f := fun k => (dict_Find.f k d (gt l i)).bind fun bt => dict_places.l0 k d (acc ++ [bt.1]) l (l.length : Int) ((i + 1 : Nat) : Int)) (fun k => ?_) (Ev.bind (find_ev hd hl _) ?_)
    · rw [dict_places.l0, if_pos (by omega), if_pos (by omega), if_pos (by omega), rd_gt, succ64 (by omega)]
      simp only [if_pos (show acc.length < 17592186044416 by omega)]
    · have := ih (i + 1) (acc ++ [place d (gt l i)]) (by omega) (by omega) (by rw [List.length_append, ha]; rfl)
      rw [List.append_assoc] at this
      rw [List.drop_eq_getElem_cons hi', List.map_cons, ← gt_get l i hi']
      exact this
theorem places_ev {d : List ByteArray} (hd : Rising d) (hl : d.length < 4611686018427387904) (l : List ByteArray) (hll : l.length < 17592186044416) : Ev (fun k => dict_places.f k d l) (l.map (place d)) := by
  have := places_l0 hd hl l hll l.length 0 [] (by omega) (by omega) rfl
  exact this
theorem build_ev (l : List ByteArray) (hl : l.length < 8796093022208) : Ev (fun k => dict_Build.f k l) (dict_set l, l.map (place (dict_set l))) := by
  have h := set_length l
  refine Ev.congr (f := fun k => (dict_places.f k (dict_set l) l).bind fun p => some (dict_set l, p)) (fun k => by rw [dict_Build.f, if_pos hl]) (Ev.bind (places_ev (set_rises l) (by omega) l (by omega)) (Ev.now _))
theorem rd_L2_nat (x : List (List ByteArray)) (i : Nat) (h : i < x.length) : rd_L2 x (i : Int) = x[i] := by
  rw [rd_L2, Int.toNat_natCast, List.getD_eq_getElem?_getD, List.getElem?_eq_getElem h]
  rfl
theorem merge_l0 {d : List ByteArray} (hd : Rising d) (hl : d.length < 4611686018427387904) (x : List (List ByteArray)) (hx : x.length < 5864062014805) (hxl : ∀ l ∈ x, l.length < 17592186044416) (m : Nat) : ∀ i (acc : List (List Int)), x.length - i = m → i ≤ x.length → acc.length = i →
    Ev (fun k => dict_Merge.l0 k d acc x (x.length : Int) (i : Int)) (d, acc ++ (x.drop i).map fun l => l.map (place d)) := by
  induction m with
  | zero =>
    intro i acc hm hi ha
    refine Ev.step (f := fun _ => some (d, acc)) (fun k => by rw [dict_Merge.l0, if_neg (by omega)]) ?_
    rw [List.drop_eq_nil_of_le (by omega), List.map_nil, List.append_nil]
    exact Ev.now _
  | succ m ih =>
    intro i acc hm hi ha
    have hi' : i < x.length := by omega
    refine Ev.step (f := fun k => (dict_places.f k d x[i]).bind fun t => dict_Merge.l0 k d (acc ++ [t]) x (x.length : Int) ((i + 1 : Nat) : Int)) (fun k => ?_) (Ev.bind (places_ev hd hl _ (hxl _ (List.getElem_mem hi'))) ?_)
    · rw [dict_Merge.l0, if_pos (by omega), if_pos (by omega), if_pos (by omega), rd_L2_nat x i hi', succ64 (by omega)]
      simp only [if_pos (show acc.length < 5864062014805 by omega)]
    · have := ih (i + 1) (acc ++ [x[i].map (place d)]) (by omega) (by omega) (by rw [List.length_append, ha]; rfl)
      rw [List.append_assoc] at this
      rw [List.drop_eq_getElem_cons hi', List.map_cons]
      exact this
theorem merge_ev (x : List (List ByteArray)) (hx : x.length < 5864062014805) (hf : x.flatten.length < 8796093022208) : Ev (fun k => dict_Merge.f k x) (dict_set x.flatten, x.map fun l => l.map (place (dict_set x.flatten))) := by
  have h := set_length x.flatten
  have hxl : ∀ l ∈ x, l.length < 17592186044416 := fun l hl => by
    have := List.Sublist.length_le (List.sublist_flatten_of_mem hl)
    omega
  refine Ev.congr (f := fun k => (dict_Build.f k x.flatten).bind fun bt => dict_Merge.l0 k bt.1 [] x (x.length : Int) ((0 : Nat) : Int)) (fun k => by rw [dict_Merge.f, slices_Concat_string_string.f, if_pos ⟨by omega, hf⟩, Option.bind_some]; rfl) (Ev.bind (build_ev _ hf) ?_)
  have := merge_l0 (set_rises x.flatten) (by omega) x hx hxl x.length 0 [] (by omega) (by omega) rfl
  exact this

end Go.Proofs.Ytllboaghcfeepaa.QDictTells
