/- The texts of a list, each once, in order, as printed for PredRules. -/
import Derived.Test.YtalpcnomfebdiaaQPredRulesx
import Derived.Test.YtalpcnomfebdiaaB0
namespace Go.Proofs.Ytalpcnomfebdiaa.QPredRules
open Go.RowKit Go.Proofs.YtalpcnomfebdiaaW.PrintWords Go.Proofs.YtalpcnomfebdiaaW.PrintLast Go.Proofs.YtalpcnomfebdiaaW.PrintMore Go.Proofs.Ytalpcnomfebdiaa.Base
set_option linter.unusedVariables false
set_option linter.unusedSimpArgs false

/-- The text at a place. -/
def gt (d : List ByteArray) (i : Nat) : ByteArray := d.getD i ByteArray.empty
theorem rd_gt (d : List ByteArray) (i : Nat) : rdOf ByteArray.empty d (i : Int) = gt d i := rfl
theorem gt_get (d : List ByteArray) (i : Nat) (h : i < d.length) : gt d i = d[i] := by
  rw [gt, List.getD_eq_getElem?_getD, List.getElem?_eq_getElem h]
  rfl
theorem ba_ext {a b : ByteArray} (h : a.toList = b.toList) : a = b := by
  rw [ByteArray.toList_eq, ByteArray.toList_eq] at h
  obtain ⟨⟨a⟩⟩ := a
  obtain ⟨⟨b⟩⟩ := b
  exact congrArg (fun z => ByteArray.mk (Array.mk z)) h
theorem ba_iff {a b : ByteArray} : a.toList = b.toList ↔ a = b := ⟨ba_ext, fun h => by rw [h]⟩
instance : DecidableEq ByteArray := fun a b => decidable_of_iff (a.toList = b.toList) ba_iff
instance (s : ByteArray) (d : List ByteArray) : Decidable (s ∈ d) := decidable_of_iff (d.any (fun x => decide (x = s)) = true) (by simp)
theorem set_map (l : List ByteArray) : (dict_set l).map (·.data.toList) = (l.map (·.data.toList)).foldl (fun d s => DictSort.put s d) [] := DictSort.fold_map l []
theorem mem_data {l : List ByteArray} {x : ByteArray} : x.data.toList ∈ l.map (·.data.toList) ↔ x ∈ l := by
  constructor
  · intro h
    obtain ⟨y, hy, e⟩ := List.mem_map.1 h
    have : y = x := ba_ext (by rw [ByteArray.toList_eq, ByteArray.toList_eq]; exact e)
    exact this ▸ hy
  · exact fun h => List.mem_map.2 ⟨x, h, rfl⟩
theorem mem_set {l : List ByteArray} {x : ByteArray} : x ∈ dict_set l ↔ x ∈ l := by
  have h := (DictSort.fold_rises (l.map (·.data.toList)) [] List.Pairwise.nil).2 x.data.toList
  rw [← set_map, mem_data, mem_data] at h
  simpa using h
theorem put_length (s : ByteArray) (l : List ByteArray) : (dict_put s l).length ≤ l.length + 1 := by
  induction l with
  | nil => simp [dict_put]
  | cons x r ih =>
    rw [dict_put]
    split
    · simp only [List.length_cons]
      omega
    · split <;> simp only [List.length_cons] <;> omega
theorem fold_length (l : List ByteArray) : ∀ d : List ByteArray, (l.foldl (fun d s => dict_put s d) d).length ≤ d.length + l.length := by
  induction l with
  | nil => exact fun d => by simp
  | cons s r ih =>
    intro d
    have h1 := ih (dict_put s d)
    have h2 := put_length s d
    simp only [List.foldl_cons, List.length_cons]
    omega
theorem set_length (l : List ByteArray) : (dict_set l).length ≤ l.length := by
  have := fold_length l []
  simpa [dict_set] using this

end Go.Proofs.Ytalpcnomfebdiaa.QPredRules
