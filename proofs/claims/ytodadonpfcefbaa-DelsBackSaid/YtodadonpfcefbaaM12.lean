/- Marks, written behind anything, are read as themselves: what Decode comes to. -/
import Derived.Test.YtodadonpfcefbaaM11
import Derived.Test.YtodadonpfcefbaaTRunsTripDelsReads
namespace Go.Proofs.Ytodadonpfcefbaa.Marks
open Go.RowKit Go.Proofs.YtodadonpfcefbaaW.PrintWords Go.Proofs.YtodadonpfcefbaaW.PrintLast Go.Proofs.YtodadonpfcefbaaW.PrintMore Go.Proofs.Ytodadonpfcefbaa.QDelsReads Go.Proofs.Ytodadonpfcefbaa.Base
set_option linter.unusedVariables false
set_option linter.unusedSimpArgs false
theorem bn_lt2 (l : List Bool) : ∀ x ∈ l.map bn, x < 2 ^ 1 := by
  intro x hx
  obtain ⟨b, _, rfl⟩ := List.mem_map.1 hx
  cases b <;> decide
theorem bn_back (l : List Bool) : (ints (l.map bn)).map (fun x => x == 1) = l := by
  rw [← map_bi]
  induction l with
  | nil => rfl
  | cons b l ih =>
    simp only [List.map_cons, ih]
    cases b <;> rfl
theorem encB_bytes (l : List Bool) : ∃ B : List Nat, encB l = ints B ∧ (∀ x ∈ B, x < 256) ∧ B = putN l.length ++ (enc (l.map bn) 1).1 :=
  ⟨_, by rw [encB, ints_append], fun x hx => (List.mem_append.1 hx).elim (putN_lt _ x) (enc_bytes _ _ x), rfl⟩
theorem dec_put {A : List Nat} (hA : ∀ x ∈ A, x < 256) (hl : A.length ≤ 140737488351232) (l : List Bool) (hs : l.length ≤ 300) :
    ∃ k, decF k (ints A ++ encB l) ((ints A).length : Int) = some (some l, ((ints A ++ encB l).length : Int), 0) := by
  obtain ⟨E, he, hE, hE2⟩ := encB_bytes l
  rw [he, ints_append]
  have hsz := enc_size5 (L := l.map bn) (by rw [List.length_map]; omega) 1
  rw [List.length_map] at hsz
  have hpl : (putN l.length).length ≤ 10 := putN_10 (by omega)
  have hEl : E.length = (putN l.length).length + (enc (l.map bn) 1).1.length := by rw [hE2, List.length_append]
  have hB : ∀ x ∈ A ++ E, x < 256 := fun x hx => (List.mem_append.1 hx).elim (hA x) (hE x)
  have hBl : (A ++ E).length ≤ 140737488355327 := by rw [List.length_append]; omega
  have hd1 : (A ++ E).drop A.length = putN l.length ++ (enc (l.map bn) 1).1 := by rw [List.drop_left' rfl, hE2]
  have hg := get_ev hB hBl (A.length : Int)
  rw [getS_put (v := l.length) (by omega) hd1 (by rw [List.length_append]; omega)] at hg
  have hsm : Ev (fun k => varint_Small.f k (ints (A ++ E)) (A.length : Int)) ((l.length : Int), ((A.length + (putN l.length).length : Nat) : Int), 0) := by
    refine Ev.congr (fun k => rfl) (Ev.bind hg (Ev.congr (f := fun _ => some ((l.length : Int), ((A.length + (putN l.length).length : Nat) : Int), (0 : Int))) (fun k => ?_) (Ev.now _)))
    have e : mn (l.length : Int) 1099511627776 = (l.length : Int) := by rw [mn, if_neg (by omega)]
    have e2 : wrap64 (l.length : Int) = (l.length : Int) := w64 (by omega) (by omega)
    rw [e, e2]
  have ht := trip_ev (L := l.map bn) (w := 1) hB hBl (by omega) (by rw [List.length_map]; omega) (bn_lt2 l) (A.length + (putN l.length).length) [] (by rw [List.length_append]; omega) (by rw [← List.drop_drop, hd1, List.drop_left' rfl, List.append_nil]; rfl)
  rw [List.length_map] at ht
  refine Ev.rounds (r := (some l, ((ints (A ++ E)).length : Int), (0 : Int))) (g := fun k => decF k (ints (A ++ E)) ((ints A).length : Int)) ?_
  rw [ints_length, ints_length]
  have hlen : ((ints (l.map bn)).length : Int) = (l.length : Int) := by rw [ints_length, List.length_map]
  refine Ev.congr (fun k => rfl) (Ev.bind hsm (Ev.congr (f := fun k => (runs_Decode.f k (ints (A ++ E)) ((A.length + (putN l.length).length : Nat) : Int) (l.length : Int) 1).bind fun u => if u.2.2 = 0 then (if (u.1.length : Int) = (l.length : Int) then some (some (u.1.map fun x => x == 1), u.2.1, 0) else none) else some (none, 0, u.2.2)) (fun k => ?_) (Ev.bind ht (Ev.congr (fun k => ?_) (Ev.now _)))))
  · rw [if_pos rfl, if_neg (by omega)]
  · rw [if_pos rfl, if_pos hlen, bn_back]
    simp only [List.length_append, hEl, Int.natCast_add, Int.add_assoc]
    rfl
end Go.Proofs.Ytodadonpfcefbaa.Marks
