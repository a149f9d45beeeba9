import Derived.Test.YtoninmgglcepmaaWMore
import Derived.OpenShut
import Derived.DataReads
import Derived.DataElems
import Derived.ChangeSlices
namespace Go.Proofs.Ytoninmgglcepmaa.Opens
open Go.RowKit Go.Proofs.YtoninmgglcepmaaW.PrintWords
set_option linter.unusedVariables false
/-- Whatever is read as a datum of this type says what the kind says, and is good. -/
def Opens {α : Type} (d : Kd α) (P : Program) (t : TypeId) (Ok : α → Prop) : Prop :=
  ∀ {H : Type} (enc : TypeId × Value → H) (w : World) (fuel : Nat) (cs : List Value) (x : DataW H × List MemPlace), DataW.trod enc P w 0 (fun _ => true) true fuel t cs = some x → ∃ a, d.K w a cs ∧ Ok a
theorem opens_int {P : Program} {t : TypeId} {k : IntKind} (ht : P.underlying t = some (.int k)) : Opens (Kd.int k) P t (fun n => (Lit.int k n).wf = true) := by
  intro H enc w fuel cs x h
  obtain ⟨n, rfl, _, hw⟩ := DataW.trod_int ht h
  exact ⟨n, rfl, hw⟩
theorem opens_bool {P : Program} {t : TypeId} (ht : P.underlying t = some .bool) : Opens Kd.bool P t (fun _ => True) := by
  intro H enc w fuel cs x h
  obtain ⟨b, rfl, _⟩ := DataW.trod_bool ht h
  exact ⟨b, rfl, trivial⟩
theorem opens_string {P : Program} {t : TypeId} (ht : P.underlying t = some .string) : Opens Kd.string P t (fun s => s.size ≤ maxLen) := by
  intro H enc w fuel cs x h
  obtain ⟨s, rfl, _, hw⟩ := DataW.trod_string ht h
  exact ⟨s, rfl, hw⟩
theorem list_of {α : Type} {Q : Nat → α → Prop} : ∀ n : Nat, (∀ i, i < n → ∃ a, Q i a) → ∃ xs : List α, xs.length = n ∧ ∀ i a, xs[i]? = some a → Q i a
  | 0, _ => ⟨[], rfl, fun i a h => by simp at h⟩
  | n + 1, h => by
    obtain ⟨xs, hl, hx⟩ := list_of n (fun i hi => h i (by omega))
    obtain ⟨a, ha⟩ := h n (by omega)
    refine ⟨xs ++ [a], by simp [hl], fun i b hb => ?_⟩
    by_cases hi : i < xs.length
    · rw [List.getElem?_append_left hi] at hb
      exact hx i b hb
    · have hi' : i = n := by
        have := (List.getElem?_eq_some_iff.1 hb).1
        rw [List.length_append, List.length_singleton] at this
        omega
      subst hi'
      rw [← hl, List.getElem?_append_right (by omega)] at hb
      have : a = b := by simpa using hb
      subst this
      exact ha
theorem opens_slice {α : Type} {d : Kd α} {P : Program} {t e : TypeId} {Ok : α → Prop} (ht : P.underlying t = some (.slice e)) (hc : P.cellsOf e = d.sz) (ho : Opens d P e Ok) : Opens (Kd.slice e d) P t (fun xs => xs.length ≤ maxLen ∧ ∀ x ∈ xs, Ok x) := by
  intro H enc w fuel cs x h
  rcases DataW.trod_slice ht h with ⟨rfl, _⟩ | ⟨a, len, cap, elems, rest, n, _, rfl, _, hb, hl, hm, hlen, hel, _, _⟩
  · exact ⟨[], ⟨none, 0, rfl, Nat.le_refl _, Kd.C_nil _ _⟩, by simp, by simp⟩
  · obtain ⟨xs, hxl, hx⟩ := list_of (Q := fun i b => (∃ c, w.cells? 0 (a.add (i * P.cellsOf e)) (P.cellsOf e) = some c ∧ d.K w b c) ∧ Ok b) len (fun i hi => by
      have h1 := hel i hi
      rw [List.getElem?_eq_getElem (by omega)] at h1
      obtain ⟨c, hc1, hc2⟩ := Option.bind_eq_some_iff.1 h1
      obtain ⟨b, hK, hO⟩ := ho enc w n c _ hc2
      exact ⟨b, ⟨c, hc1, hK⟩, hO⟩)
    refine ⟨xs, ⟨some a, cap, by rw [hxl], by omega, hxl ▸ rfl, by rw [hxl]; exact Nat.le_trans hl (Nat.le_trans hm (by decide)), fun _ => ⟨a, rfl, fun j p hp => ?_⟩⟩, by omega, fun y hy => ?_⟩
    · obtain ⟨⟨c, hc1, hK⟩, _⟩ := hx j p hp
      have hs := World.cells?_some hc1
      refine ⟨c, d.K_len hK, hK, fun i u hu => ?_⟩
      have hi : i < P.cellsOf e := by
        have := (List.getElem?_eq_some_iff.1 hu).1
        rw [d.K_len hK, ← hc] at this
        exact this
      have := hs.2.2 i hi
      rw [add_add, hc, hu] at this
      exact this
    · obtain ⟨j, hj⟩ := List.getElem?_of_mem hy
      exact (hx j y hj).2
/-- The same with so many rounds of reading. -/
def OpensAt {α : Type} (d : Kd α) (P : Program) (t : TypeId) (Ok : α → Prop) (fuel : Nat) : Prop :=
  ∀ {H : Type} (enc : TypeId × Value → H) (w : World) (cs : List Value) (x : DataW H × List MemPlace), DataW.trod enc P w 0 (fun _ => true) true fuel t cs = some x → ∃ a, d.K w a cs ∧ Ok a
theorem opens_slice_at {α : Type} {d : Kd α} {P : Program} {t e : TypeId} {Ok : α → Prop} {fuel : Nat} (ht : P.underlying t = some (.slice e)) (hc : P.cellsOf e = d.sz) (ho : ∀ n, n < fuel → OpensAt d P e Ok n) : OpensAt (Kd.slice e d) P t (fun xs => xs.length ≤ maxLen ∧ ∀ x ∈ xs, Ok x) fuel := by
  intro H enc w cs x h
  rcases DataW.trod_slice ht h with ⟨rfl, _⟩ | ⟨a, len, cap, elems, rest, n, en, rfl, _, hb, hl, hm, hlen, hel, _, _⟩
  · exact ⟨[], ⟨none, 0, rfl, Nat.le_refl _, Kd.C_nil _ _⟩, by simp, by simp⟩
  · obtain ⟨xs, hxl, hx⟩ := list_of (Q := fun i b => (∃ c, w.cells? 0 (a.add (i * P.cellsOf e)) (P.cellsOf e) = some c ∧ d.K w b c) ∧ Ok b) len (fun i hi => by
      have h1 := hel i hi
      rw [List.getElem?_eq_getElem (by omega)] at h1
      obtain ⟨c, hc1, hc2⟩ := Option.bind_eq_some_iff.1 h1
      obtain ⟨b, hK, hO⟩ := ho n (by omega) enc w c _ hc2
      exact ⟨b, ⟨c, hc1, hK⟩, hO⟩)
    refine ⟨xs, ⟨some a, cap, by rw [hxl], by omega, hxl ▸ rfl, by rw [hxl]; exact Nat.le_trans hl (Nat.le_trans hm (by decide)), fun _ => ⟨a, rfl, fun j p hp => ?_⟩⟩, by omega, fun y hy => ?_⟩
    · obtain ⟨⟨c, hc1, hK⟩, _⟩ := hx j p hp
      have hs := World.cells?_some hc1
      refine ⟨c, d.K_len hK, hK, fun i u hu => ?_⟩
      have hi : i < P.cellsOf e := by
        have := (List.getElem?_eq_some_iff.1 hu).1
        rw [d.K_len hK, ← hc] at this
        exact this
      have := hs.2.2 i hi
      rw [add_add, hc, hu] at this
      exact this
    · obtain ⟨j, hj⟩ := List.getElem?_of_mem hy
      exact (hx j y hj).2
end Go.Proofs.Ytoninmgglcepmaa.Opens
