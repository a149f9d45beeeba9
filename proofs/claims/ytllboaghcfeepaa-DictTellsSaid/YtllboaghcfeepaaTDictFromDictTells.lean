/- The span of the texts that begin with a prefix, as printed for DictTells. -/
import Derived.Test.YtllboaghcfeepaaTDictSetDictTells
namespace Go.Proofs.Ytllboaghcfeepaa.QDictTells
open Go.RowKit Go.Proofs.YtllboaghcfeepaaW.PrintWords Go.Proofs.YtllboaghcfeepaaW.PrintLast Go.Proofs.YtllboaghcfeepaaW.PrintMore Go.Proofs.Ytllboaghcfeepaa.Base
set_option linter.unusedVariables false
set_option linter.unusedSimpArgs false

theorem lt_begins {p q : List UInt8} (h : q < p) : ¬ p <+: q := by
  rintro ⟨t, rfl⟩
  induction p with
  | nil => exact absurd h (List.not_lt_nil _)
  | cons a p ih =>
    rw [List.cons_append, List.cons_lt_cons_iff] at h
    rcases h with h | ⟨_, h⟩
    · exact absurd h (UInt8.lt_irrefl _)
    · exact ih h
theorem begins_lt {p q x : List UInt8} (h1 : ¬ q < p) (h2 : ¬ p <+: q) (h3 : p <+: x) : x < q := by
  obtain ⟨t, rfl⟩ := h3
  induction p generalizing q with
  | nil => exact absurd (List.nil_prefix) h2
  | cons a p ih =>
    cases q with
    | nil => exact absurd (by simp) h1
    | cons b q =>
      rw [List.cons_lt_cons_iff] at h1
      rw [List.cons_append, List.cons_lt_cons_iff]
      by_cases e : a = b
      · subst e
        refine .inr ⟨rfl, ih (fun h => h1 (.inr ⟨rfl, h⟩)) fun h => h2 ?_⟩
        rw [List.cons_prefix_cons]
        exact ⟨rfl, h⟩
      · refine .inl ?_
        have : ¬ b < a := fun h => h1 (.inl h)
        rcases UInt8.lt_or_lt_of_ne e with h | h
        · exact h
        · exact absurd h this
def Begins (p s : ByteArray) : Prop := p.toList <+: s.toList
theorem toList_length (s : ByteArray) : s.toList.length = s.size := by
  rw [ByteArray.toList_eq, Array.length_toList]
  rfl
theorem extract_toList (s : ByteArray) (n : Nat) : (s.extract 0 n).toList = s.toList.take n := by
  rw [ByteArray.toList_eq, ByteArray.toList_eq, ByteArray.data_extract]
  simp
theorem begins_size {p s : ByteArray} (h : Begins p s) : p.size ≤ s.size := by
  have := List.IsPrefix.length_le h
  rwa [toList_length, toList_length] at this
theorem begins_iff {p s : ByteArray} : Begins p s ↔ (s.extract 0 p.size).toList = p.toList := by
  rw [Begins, List.prefix_iff_eq_take, toList_length, extract_toList]
  exact eq_comm
theorem begins_b {p s : ByteArray} (b : Bool) (hb : b = true ↔ Begins p s) : ((s.extract 0 p.size).toList == p.toList) = b := by
  rw [Bool.eq_iff_iff, beq_iff_eq, hb, begins_iff]
theorem prefix_f (s p : ByteArray) : ∃ b, strings_HasPrefix.f s p = some b ∧ (b = true ↔ Begins p s) := by
  by_cases h : p.size ≤ s.size
  · refine ⟨_, by rw [strings_HasPrefix.f, stringslite_HasPrefix.f, if_pos (by omega), if_pos (by omega), if_pos (by omega)]; rfl, ?_⟩
    rw [beq_iff_eq, begins_iff]
    rfl
  · refine ⟨false, by rw [strings_HasPrefix.f, stringslite_HasPrefix.f, if_neg (by omega)]; rfl, ?_⟩
    exact ⟨fun h => absurd h Bool.false_ne_true, fun hb => absurd (begins_size hb) h⟩
/-- The span of what begins so ends here. -/
def EndsAt (d : List ByteArray) (p : ByteArray) (e : Nat) : Prop := pos p d ≤ e ∧ e ≤ d.length ∧ ∀ i, i < d.length → (Begins p (gt d i) ↔ pos p d ≤ i ∧ i < e)
theorem ends_at {d : List ByteArray} (hd : Rising d) {p : ByteArray} {i : Nat} (h1 : pos p d ≤ i) (h2 : i ≤ d.length) (h3 : ∀ j, pos p d ≤ j → j < i → Begins p (gt d j)) (h4 : i < d.length → ¬ Begins p (gt d i)) : EndsAt d p i := by
  refine ⟨h1, h2, fun j hj => ⟨fun hb => ?_, fun hh => h3 j hh.1 hh.2⟩⟩
  have h5 : pos p d ≤ j := Nat.le_of_not_lt fun hlt => lt_begins (pos_lt hlt) hb
  refine ⟨h5, Nat.lt_of_not_le fun hle => ?_⟩
  by_cases e : i = j
  · subst e
    exact h4 hj hb
  · have h6 := begins_lt (pos_ge hd h1 (by omega)) (h4 (by omega)) hb
    exact List.lt_irrefl _ (List.lt_trans h6 (rising_lt hd (by omega) hj))
theorem from_l0 {d : List ByteArray} (hd : Rising d) (hl : d.length < 4611686018427387904) (p : ByteArray) (m : Nat) : ∀ i, d.length - i = m → pos p d ≤ i → i ≤ d.length → (∀ j, pos p d ≤ j → j < i → Begins p (gt d j)) →
    ∃ e, EndsAt d p e ∧ Ev (fun k => dict_From.l0 k d p ((pos p d : Nat) : Int) (i : Int)) (((pos p d : Nat) : Int), (e : Int)) := by
  induction m with
  | zero =>
    intro i hm h1 h2 h3
    refine ⟨i, ends_at hd h1 h2 h3 (fun h => absurd h (by omega)), ?_⟩
    exact Ev.step (f := fun _ => some (((pos p d : Nat) : Int), (i : Int))) (fun k => by rw [dict_From.l0, if_neg (by omega)]) (Ev.now _)
  | succ m ih =>
    intro i hm h1 h2 h3
    obtain ⟨b, hb1, hb2⟩ := prefix_f (gt d i) p
    by_cases h : b = true
    · obtain ⟨e, h4, h5⟩ := ih (i + 1) (by omega) (by omega) (by omega) (fun j hj1 hj2 => by
        by_cases e : j = i
        · subst e
          exact hb2.1 h
        · exact h3 j hj1 (by omega))
      refine ⟨e, h4, Ev.step (fun k => ?_) h5⟩
      rw [dict_From.l0, if_pos (by omega), if_pos (by omega), rd_gt, hb1, Option.bind_some, if_pos h, succ64 (by omega)]
    · refine ⟨i, ends_at hd h1 h2 h3 (fun _ hh => h (hb2.2 hh)), ?_⟩
      refine Ev.step (f := fun _ => some (((pos p d : Nat) : Int), (i : Int))) (fun k => ?_) (Ev.now _)
      rw [dict_From.l0, if_pos (by omega), if_pos (by omega), rd_gt, hb1, Option.bind_some, if_neg h]
theorem from_ev {d : List ByteArray} (hd : Rising d) (hl : d.length < 4611686018427387904) (p : ByteArray) : ∃ e, EndsAt d p e ∧ Ev (fun k => dict_From.f k d p) (((pos p d : Nat) : Int), (e : Int)) := by
  obtain ⟨e, h1, h2⟩ := from_l0 hd hl p _ (pos p d) rfl (Nat.le_refl _) (pos_le p d) (fun j h1 h2 => absurd h1 (by omega))
  exact ⟨e, h1, Ev.congr (fun k => rfl) (Ev.bind (search_ev hd hl p) h2)⟩

end Go.Proofs.Ytllboaghcfeepaa.QDictTells
