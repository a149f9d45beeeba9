import Derived.Test.YtalpcnomfebdiaaOpens
import Derived.SizedLaws
namespace Go.Proofs.Ytalpcnomfebdiaa.Opens
open Go.RowKit Go.Proofs.YtalpcnomfebdiaaW.PrintWords
set_option linter.unusedVariables false
/-- Whatever is read as a datum of this type, and takes no more than may be, says what the kind says, and is good. -/
def OpensS {α : Type} (d : Kd α) (P : Program) (t : TypeId) (Ok : α → Prop) : Prop :=
  ∀ {H : Type} (enc : TypeId × Value → H) (w : World) (fuel : Nat) (cs : List Value) (x : DataW H × List MemPlace), DataW.trod enc P w 0 (fun _ => true) true fuel t cs = some x → (x.1.weights P t).all (· ≤ reachBytes) = true → ∃ a, d.K w a cs ∧ Ok a
theorem all_each {H : Type} {P : Program} {ts : List TypeId} {ds : List (DataW H)} (h : (DataW.weightsEach P ts ds).all (· ≤ reachBytes) = true) {j : Nat} {t : TypeId} {d : DataW H} (ht : ts[j]? = some t) (hd : ds[j]? = some d) : (d.weights P t).all (· ≤ reachBytes) = true :=
  List.all_eq_true.2 fun n hn => List.all_eq_true.1 h n (DataW.weights_mem_each ht hd n hn)
theorem all_elems {H : Type} {P : Program} {e : TypeId} : ∀ {l : List (DataW H)} {j : Nat} {d : DataW H}, (DataW.weightsAll P e l).all (· ≤ reachBytes) = true → l[j]? = some d → (d.weights P e).all (· ≤ reachBytes) = true
  | [], _, _, _, hd => by simp at hd
  | x :: r, 0, d, h, hd => by
    simp only [List.getElem?_cons_zero, Option.some.injEq] at hd
    subst hd
    rw [DataW.weightsAll, List.all_append, Bool.and_eq_true] at h
    exact h.1
  | x :: r, j + 1, d, h, hd => by
    rw [DataW.weightsAll, List.all_append, Bool.and_eq_true] at h
    exact all_elems h.2 (by simpa using hd)
theorem weigh_slice {H : Type} {enc : TypeId × Value → H} {P : Program} {t e : TypeId} {w : World} {fuel : Nat} {A : Option Addr} {n c B : Nat} {x : DataW H × List MemPlace} (ht : P.underlying t = some (.slice e)) (hB : P.bytesOf e = B)
    (h : DataW.trod enc P w 0 (fun _ => true) true fuel t [.slice A n c] = some x) (hw : (x.1.weights P t).all (· ≤ reachBytes) = true) : n * B ≤ 140737488351232 := by
  rcases DataW.trod_slice ht h with ⟨hc, _⟩ | ⟨a, len, cap, elems, rest, m, _, hc, hx, _, _, _, hlen, _, _, _⟩
  · injection hc with hc _
    injection hc with _ hn _
    subst hn
    simp
  · injection hc with hc _
    injection hc with _ hn _
    subst hn
    subst hx
    simp only [DataW.weights, ht, List.all_cons, Bool.and_eq_true, decide_eq_true_eq, List.length_map, hB, hlen] at hw
    exact Nat.le_trans (Nat.mul_le_mul_right _ (Nat.le_add_right _ _)) (Nat.le_trans hw.1 (by decide))
theorem opens_sliceS {α : Type} {d : Kd α} {P : Program} {t e : TypeId} {Ok : α → Prop} (ht : P.underlying t = some (.slice e)) (hc : P.cellsOf e = d.sz) (ho : OpensS d P e Ok) : OpensS (Kd.slice e d) P t (fun xs => xs.length ≤ maxLen ∧ ∀ x ∈ xs, Ok x) := by
  intro H enc w fuel cs x h hwt
  rcases DataW.trod_slice ht h with ⟨rfl, _⟩ | ⟨a, len, cap, elems, rest, n, _, rfl, hxe, hb, hl, hm, hlen, hel, _, _⟩
  · exact ⟨[], ⟨none, 0, rfl, Nat.le_refl _, Kd.C_nil _ _⟩, by simp, by simp⟩
  · subst hxe
    simp only [DataW.weights, ht, List.all_cons, List.all_append, Bool.and_eq_true] at hwt
    obtain ⟨xs, hxl, hx⟩ := list_of (Q := fun i b => (∃ c, w.cells? 0 (a.add (i * P.cellsOf e)) (P.cellsOf e) = some c ∧ d.K w b c) ∧ Ok b) len (fun i hi => by
      have h1 := hel i hi
      rw [List.getElem?_eq_getElem (by omega)] at h1
      obtain ⟨c, hc1, hc2⟩ := Option.bind_eq_some_iff.1 h1
      obtain ⟨b, hK, hO⟩ := ho enc w n c _ hc2 (all_elems (j := i) hwt.2.1 (by rw [List.getElem?_map, List.getElem?_eq_getElem (by omega)]; rfl))
      exact ⟨b, ⟨c, hc1, hK⟩, hO⟩)
    refine ⟨xs, ⟨some a, cap, by rw [hxl], by omega, hxl ▸ rfl, by rw [hxl]; exact Nat.le_trans hl (Nat.le_trans hm (by decide)), fun _ => ⟨a, rfl, fun j p hp => ?_⟩⟩, by omega, fun y hy => ?_⟩
    · obtain ⟨⟨c, hc1, hK⟩, _⟩ := hx j p hp
      have hs := World.cells?_some hc1
      refine ⟨c, d.K_len hK, hK, fun i u hu => ?_⟩
      have hi : i < P.cellsOf e := by
        have := (List.getElem?_eq_some_iff.1 hu).1
        rw [d.K_len hK, ← hc] at this
        exact this
      have := hs.2.2 i hi
      rw [add_add, hc, hu] at this
      exact this
    · obtain ⟨j, hj⟩ := List.getElem?_of_mem hy
      exact (hx j y hj).2
end Go.Proofs.Ytalpcnomfebdiaa.Opens
