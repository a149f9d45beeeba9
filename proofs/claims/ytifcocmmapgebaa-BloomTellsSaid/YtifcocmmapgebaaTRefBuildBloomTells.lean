/- The document's dictionaries and filters come to the same as the program's, as printed for BloomTells. -/
import Derived.Test.YtifcocmmapgebaaTBloomBaseBloomTells
namespace Go.Proofs.Ytifcocmmapgebaa.QBloomTells
open Go.RowKit Go.Proofs.YtifcocmmapgebaaW.PrintWords Go.Proofs.YtifcocmmapgebaaW.PrintLast Go.Proofs.YtifcocmmapgebaaW.PrintMore Go.Proofs.Ytifcocmmapgebaa.Base
set_option linter.unusedVariables false
set_option linter.unusedSimpArgs false
set_option linter.unusedSectionVars false

theorem rising_lt {d : List ByteArray} (h : Rising d) {i j : Nat} (hij : i < j) (hj : j < d.length) : (gt d i).toList < (gt d j).toList := by
  rw [gt_get d i (by omega), gt_get d j hj]
  exact List.pairwise_iff_getElem.1 h i j (by omega) hj hij
/-- How many texts are less, of the first ones. -/
def pos (s : ByteArray) : List ByteArray → Nat
  | [] => 0
  | x :: r => if x.toList < s.toList then pos s r + 1 else 0
theorem pos_le (s : ByteArray) (d : List ByteArray) : pos s d ≤ d.length := by
  induction d with
  | nil => exact Nat.le_refl _
  | cons x r ih =>
    rw [pos]
    split <;> simp only [List.length_cons] <;> omega
theorem pos_lt {s : ByteArray} {d : List ByteArray} {i : Nat} (h : i < pos s d) : (gt d i).toList < s.toList := by
  induction d generalizing i with
  | nil => exact absurd h (by simp [pos])
  | cons x r ih =>
    rw [pos] at h
    split at h
    · rename_i hx
      cases i with
      | zero => exact hx
      | succ i => exact ih (i := i) (by omega)
    · omega
theorem pos_at {s : ByteArray} {d : List ByteArray} (h : pos s d < d.length) : ¬ (gt d (pos s d)).toList < s.toList := by
  induction d with
  | nil => exact absurd h (by simp [pos])
  | cons x r ih =>
    by_cases hx : x.toList < s.toList
    · have e : pos s (x :: r) = pos s r + 1 := by rw [pos, if_pos hx]
      rw [e] at h ⊢
      exact ih (by simpa using h)
    · have e : pos s (x :: r) = 0 := by rw [pos, if_neg hx]
      rw [e]
      exact hx
theorem pos_ge {s : ByteArray} {d : List ByteArray} (hd : Rising d) {i : Nat} (h : pos s d ≤ i) (hi : i < d.length) : ¬ (gt d i).toList < s.toList := by
  by_cases e : pos s d = i
  · subst e
    exact pos_at hi
  · exact fun hlt => pos_at (s := s) (d := d) (by omega) (List.lt_trans (rising_lt hd (by omega) hi) hlt)
theorem pos_gt {d : List ByteArray} (hd : Rising d) {i : Nat} (hi : i < d.length) : pos (gt d i) d = i := by
  rcases Nat.lt_trichotomy (pos (gt d i) d) i with h | h | h
  · exact absurd (rising_lt hd h hi) (pos_at (by omega))
  · exact h
  · exact absurd (pos_lt h) (List.lt_irrefl _)
theorem mem_pos {s : ByteArray} {d : List ByteArray} (hd : Rising d) : s ∈ d ↔ pos s d < d.length ∧ gt d (pos s d) = s := by
  constructor
  · intro h
    obtain ⟨i, hi, rfl⟩ := mem_gt h
    rw [pos_gt hd hi]
    exact ⟨hi, rfl⟩
  · rintro ⟨h1, h2⟩
    rw [← h2]
    exact gt_mem d _ h1
def place (d : List ByteArray) (s : ByteArray) : Int := if s ∈ d then ((pos s d : Nat) : Int) else 0
theorem rfind_l0 {d : List ByteArray} (hd : Rising d) (hl : d.length < 4611686018427387904) (s : ByteArray) (m : Nat) : ∀ i, d.length - i = m → (i ≤ pos s d ∨ s ∉ d) →
    Ev (fun k => columbariumref7_Find.l0 k d s (i : Int)) (place d s, decide (s ∈ d)) := by
  induction m with
  | zero =>
    intro i hm hi
    have hn : s ∉ d := fun h => by
      have := ((mem_pos hd).1 h).1
      rcases hi with hi | hi
      · omega
      · exact hi h
    have e : place d s = 0 := if_neg hn
    rw [e, decide_eq_false hn]
    exact Ev.step (f := fun _ => some ((0 : Int), false)) (fun k => by rw [columbariumref7_Find.l0, if_neg (by omega)]) (Ev.now _)
  | succ m ih =>
    intro i hm hi
    have h1 : i < d.length := by omega
    by_cases h : gt d i = s
    · have hp : pos s d = i := by rw [← h]; exact pos_gt hd h1
      have hmem : s ∈ d := h ▸ gt_mem d i h1
      have e : place d s = (i : Int) := by rw [place, if_pos hmem, hp]
      rw [e, decide_eq_true hmem]
      refine Ev.step (f := fun _ => some ((i : Int), true)) (fun k => ?_) (Ev.now _)
      rw [columbariumref7_Find.l0, if_pos (by omega), if_pos (by omega), rd_gt, if_pos (by rw [h])]
    · refine Ev.step (fun k => ?_) (ih (i + 1) (by omega) ?_)
      · rw [columbariumref7_Find.l0, if_pos (by omega), if_pos (by omega), rd_gt, if_neg (fun e => h (ba_ext e)), succ64 (by omega)]
      · by_cases hmem : s ∈ d
        · have hp := (mem_pos hd).1 hmem
          rcases hi with hi | hi
          · refine .inl (Nat.succ_le_of_lt (Nat.lt_of_le_of_ne hi fun e => h ?_))
            rw [e]
            exact hp.2
          · exact absurd hmem hi
        · exact .inr hmem
theorem rfind_ev {d : List ByteArray} (hd : Rising d) (hl : d.length < 4611686018427387904) (s : ByteArray) : Ev (fun k => columbariumref7_Find.f k d s) (place d s, decide (s ∈ d)) :=
  rfind_l0 hd hl s _ 0 rfl (.inl (Nat.zero_le _))
theorem put_pos (s : ByteArray) (d : List ByteArray) : dict_put s d = if pos s d < d.length ∧ gt d (pos s d) = s then d else d.take (pos s d) ++ [s] ++ d.drop (pos s d) := by
  induction d with
  | nil => rfl
  | cons x r ih =>
    by_cases hx : x.toList < s.toList
    · have e : pos s (x :: r) = pos s r + 1 := if_pos hx
      have eg : gt (x :: r) (pos s r + 1) = gt r (pos s r) := rfl
      rw [dict_put, Go.Proofs.bytesLess_eq, if_pos (decide_eq_true hx), ih, e, eg, List.length_cons]
      by_cases h : pos s r < r.length ∧ gt r (pos s r) = s
      · rw [if_pos h, if_pos ⟨by omega, h.2⟩]
      · rw [if_neg h, if_neg (fun h' => h ⟨by omega, h'.2⟩), List.take_succ_cons, List.drop_succ_cons]
        rfl
    · have e : pos s (x :: r) = 0 := if_neg hx
      have eg : gt (x :: r) 0 = x := rfl
      rw [dict_put, Go.Proofs.bytesLess_eq, if_neg (by simpa using hx), e, eg]
      by_cases h : x = s
      · rw [if_pos (by rw [h]), if_pos ⟨by simp, h⟩]
      · rw [if_neg (fun e => h (ba_ext e)), if_neg (fun h' => h h'.2)]
        rfl
theorem rput_l0 (d : List ByteArray) (hl : d.length < 1000000) (s : ByteArray) (m : Nat) : ∀ i, pos s d - i = m → i ≤ pos s d → Ev (fun k => columbariumref7_put.l0 k d s (i : Int)) (dict_put s d) := by
  have hle := pos_le s d
  induction m with
  | zero =>
    intro i hm hi
    obtain rfl : i = pos s d := by omega
    rw [put_pos]
    have hat := @pos_at s d
    generalize pos s d = p at *
    have l1 : (d.take p).length ≤ d.length := by rw [List.length_take]; omega
    have l2 : (d.drop p).length ≤ d.length := by rw [List.length_drop]; omega
    have n1 : ([] : List ByteArray).length + (d.take p).length < 8796093022208 := by simp only [List.length_nil]; omega
    have n2 : (d.take p).length < 8796093022208 := by omega
    have n3 : (d.take p ++ [s]).length + (d.drop p).length < 8796093022208 := by rw [List.length_append, List.length_singleton]; omega
    by_cases h : p < d.length
    · have hlt := hat h
      by_cases he : gt d p = s
      · rw [if_pos ⟨h, he⟩]
        refine Ev.step (f := fun _ => some d) (fun k => ?_) (Ev.now _)
        rw [columbariumref7_put.l0, if_pos (by omega), if_pos (by omega), rd_gt, Go.Proofs.bytesLess_eq, if_neg (by simpa using hlt), if_pos (by rw [he])]
      · rw [if_neg (fun h' => he h'.2)]
        refine Ev.step (f := fun _ => some (d.take p ++ [s] ++ d.drop p)) (fun k => ?_) (Ev.now _)
        rw [columbariumref7_put.l0, if_pos (by omega), if_pos (by omega), rd_gt, Go.Proofs.bytesLess_eq, if_neg (by simpa using hlt), if_neg (fun e => he (ba_ext e)), Option.bind_some, if_pos (by omega), Option.bind_some, Int.toNat_natCast, if_pos n1, Option.bind_some, List.nil_append, if_pos n2, Option.bind_some, Option.bind_some, if_pos n3]
    · rw [if_neg (fun h' => h h'.1)]
      refine Ev.step (f := fun _ => some (d.take p ++ [s] ++ d.drop p)) (fun k => ?_) (Ev.now _)
      rw [columbariumref7_put.l0, if_neg (by omega), Option.bind_some, if_pos (by omega), if_pos (by omega), Option.bind_some, Int.toNat_natCast, if_pos n1, Option.bind_some, List.nil_append, if_pos n2, Option.bind_some, Option.bind_some, if_pos n3]
  | succ m ih =>
    intro i hm hi
    have h1 : i < pos s d := by omega
    refine Ev.step (fun k => ?_) (ih (i + 1) (by omega) (by omega))
    rw [columbariumref7_put.l0, if_pos (by omega), if_pos (by omega), rd_gt, Go.Proofs.bytesLess_eq, if_pos (decide_eq_true (pos_lt h1)), succ64 (by omega)]
theorem rput_ev (d : List ByteArray) (hl : d.length < 1000000) (s : ByteArray) : Ev (fun k => columbariumref7_put.f k d s) (dict_put s d) := rput_l0 d hl s _ 0 rfl (Nat.zero_le _)
def putAll (l d : List ByteArray) : List ByteArray := l.foldl (fun d s => dict_put s d) d
theorem rbuild_l1 {D : List ByteArray} (hd : Rising D) (hl : D.length < 4611686018427387904) (l : List ByteArray) (hll : l.length < 1000) (m : Nat) : ∀ i (acc : List Int), l.length - i = m → i ≤ l.length → acc.length = i →
    Ev (fun k => columbariumref7_Build.l1 k l D acc (i : Int)) (D, acc ++ (l.drop i).map (place D)) := by
  induction m with
  | zero =>
    intro i acc hm hi ha
    rw [List.drop_eq_nil_of_le (by omega), List.map_nil, List.append_nil]
    exact Ev.step (f := fun _ => some (D, acc)) (fun k => by rw [columbariumref7_Build.l1, if_neg (by omega)]) (Ev.now _)
  | succ m ih =>
    intro i acc hm hi ha
    have hi' : i < l.length := by omega
    refine Ev.step (fun k => by rw [columbariumref7_Build.l1, if_pos (by omega), if_pos (by omega), rd_gt, succ64 (by omega)]) (Ev.bind (rfind_ev hd hl _) ?_)
    have := ih (i + 1) (acc ++ [place D (gt l i)]) (by omega) (by omega) (by rw [List.length_append, ha]; rfl)
    rw [List.append_assoc] at this
    rw [List.drop_eq_getElem_cons hi', List.map_cons, ← gt_get l i hi']
    exact Ev.congr (fun k => by rw [if_pos (show acc.length < 17592186044416 by omega)]) this
theorem rbuild_l0 {D : List ByteArray} (hd : Rising D) (hl : D.length < 4611686018427387904) (l : List ByteArray) (hll : l.length < 1000) (m : Nat) : ∀ i (acc : List ByteArray), l.length - i = m → i ≤ l.length → acc.length ≤ i → putAll (l.drop i) acc = D →
    Ev (fun k => columbariumref7_Build.l0 k l acc (i : Int)) (D, l.map (place D)) := by
  induction m with
  | zero =>
    intro i acc hm hi ha h
    rw [List.drop_eq_nil_of_le (by omega)] at h
    obtain rfl : acc = D := h
    exact Ev.step (fun k => by rw [columbariumref7_Build.l0, if_neg (by omega)]; rfl) (rbuild_l1 hd hl l hll _ 0 [] rfl (Nat.zero_le _) rfl)
  | succ m ih =>
    intro i acc hm hi ha h
    have hi' : i < l.length := by omega
    have hp := put_length (gt l i) acc
    rw [List.drop_eq_getElem_cons hi', ← gt_get l i hi'] at h
    refine Ev.step (fun k => by rw [columbariumref7_Build.l0, if_pos (by omega), if_pos (by omega), rd_gt, succ64 (by omega)]) (Ev.bind (rput_ev acc (by omega) _) ?_)
    exact ih (i + 1) _ (by omega) (by omega) (by omega) h
theorem rbuild_ev (l : List ByteArray) (hll : l.length < 1000) : Ev (fun k => columbariumref7_Build.f k l) (dict_set l, l.map (place (dict_set l))) := by
  have h := set_length l
  exact rbuild_l0 (set_rises l) (by omega) l hll _ 0 [] rfl (Nat.zero_le _) (Nat.zero_le _) rfl

end Go.Proofs.Ytifcocmmapgebaa.QBloomTells
