/- Marks, written: the program's bytes are the document's. -/
import Derived.Test.YtodadonpfcefbaaMA
import Derived.Test.YtodadonpfcefbaaTR5DelsReads
import Derived.Test.YtodadonpfcefbaaTRADelsReads
namespace Go.Proofs.Ytodadonpfcefbaa.Marks
open Go.RowKit Go.Proofs.YtodadonpfcefbaaW.PrintWords Go.Proofs.YtodadonpfcefbaaW.PrintLast Go.Proofs.YtodadonpfcefbaaW.PrintMore Go.Proofs.Ytodadonpfcefbaa.QDelsReads Go.Proofs.Ytodadonpfcefbaa.Base
set_option linter.unusedVariables false
set_option linter.unusedSimpArgs false
def bn (b : Bool) : Nat := if b = true then 1 else 0
theorem map_bi (l : List Bool) : l.map bi = ints (l.map bn) := by
  unfold ints
  rw [List.map_map]
  apply List.map_congr_left
  intro b _
  cases b <;> rfl
theorem bn_lt (l : List Bool) : ∀ x ∈ l.map bn, x < 2 ^ 64 := by
  intro x hx
  obtain ⟨b, _, rfl⟩ := List.mem_map.1 hx
  cases b <;> decide
/-- What marks are written as. -/
def encB (l : List Bool) : List Int := ints (putN l.length) ++ ints (enc (l.map bn) 1).1
theorem u64_len {n : Nat} (h : n ≤ 1048576) : IntKind.u64.wrap (n : Int) = (n : Int) := wu64 (by omega) (by omega)
theorem encB_len {l : List Bool} (h : l.length ≤ 1048576) : (ints (putN l.length)).length + (ints (enc (l.map bn) 1).1).length < 140737488355328 := by
  have h1 := putN_10 (n := l.length) (by omega)
  have h2 := enc_size (L := l.map bn) (by rw [List.length_map]; omega) 1
  rw [List.length_map] at h2
  rw [ints_length, ints_length]
  omega
theorem encodeC {w : World} {b g : Nat} {l : List Bool} (h : MkL w b g l) :
    Calls Try.prog 18 #[.pointer (some ⟨g, 0, none⟩)] w fun e w' => ∃ v0_ : Value, e = .returned (v0_) ∧ Kd.R (Kd.int .u8) 5 w' w.heap.size (fun _ => True) v0_ (encB l) ∧ Below w.heap.size w w' := by
  have hs := h.small
  refine encC h (c := (enc (l.map bn) 1).2) ?_ ?_ (encB_len hs)
  · rw [map_bi]
    exact enc_ev (bn_lt l) (by rw [List.length_map]; omega) 1
  · rw [u64_len hs]
    exact put_ev (by omega)
theorem ref_l0 (l : List Bool) (hl : l.length ≤ 1048576) (d : Nat) : ∀ i, l.length - i = d → i ≤ l.length → Ev (fun k => columbariumref11_Encode.l0 k l ((l.take i).map bi) (i : Int)) (encB l) := by
  induction d with
  | zero =>
    intro i h1 h2
    have hi : i = l.length := by omega
    subst hi
    refine Ev.step (f := fun k => (columbariumref5_Encode.f k (ints (l.map bn)) 1).bind fun bt279 => ((columbariumref1_Put.f k (ints []) (l.length : Int)).bind fun t283 => (if t283.length + bt279.1.length < 140737488355328 then (some (t283 ++ bt279.1)) else (none)))) (fun k => ?_) (Ev.bind (enc5_ev (bn_lt l) (by rw [List.length_map]; omega) 1) (Ev.bind (put1_ev (by omega) [] (by decide)) (Ev.congr (fun k => if_pos (encB_len hl)) (Ev.now _))))
    rw [columbariumref11_Encode.l0, if_neg (by omega), List.take_length, map_bi, u64_len hl]
    rfl
  | succ d ih =>
    intro i h1 h2
    have hi : i < l.length := by omega
    have e : rdOf false l (i : Int) = l[i] := by simp [rdOf, hi]
    have e1 : l.take (i + 1) = l.take i ++ [l[i]] := by rw [List.take_add_one, List.getElem?_eq_getElem hi]; rfl
    have e2 : ((l.take i).map bi).length < 17592186044416 := by simp; omega
    refine Ev.step (f := fun k => columbariumref11_Encode.l0 k l ((l.take (i + 1)).map bi) ((i + 1 : Nat) : Int)) (fun k => ?_) (ih (i + 1) (by omega) (by omega))
    rw [columbariumref11_Encode.l0, if_pos (by omega), if_pos (by omega), e, succ64 (by omega), e1, List.map_append]
    cases l[i] with
    | true => rw [if_pos rfl, if_pos e2]; rfl
    | false => rw [if_neg Bool.false_ne_true, if_pos e2]; rfl
theorem refEncC {w : World} {A : Option Addr} {c : Nat} {l : List Bool} (hr : Kd.C Kd.bool w A l.length l) (hc : l.length ≤ c) (hl : l.length ≤ 1048576) :
    Calls Try.prog 19 #[.slice A l.length c] w fun e w' => ∃ v0_ : Value, e = .returned (v0_) ∧ Kd.R (Kd.int .u8) 5 w' w.heap.size (fun _ => True) v0_ (encB l) ∧ Below w.heap.size w w' := by
  obtain ⟨k, hk⟩ := (ref_l0 l hl l.length 0 (by omega) (by omega)).rounds
  exact columbariumref11_Encode.calls k A c l (encB l) w hr hc hk
end Go.Proofs.Ytodadonpfcefbaa.Marks
