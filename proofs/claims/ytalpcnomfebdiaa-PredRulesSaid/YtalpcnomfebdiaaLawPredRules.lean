-- Written by a program of this session (wip/myprint.py): the machine's side of a law
import Derived.Test.YtalpcnomfebdiaaRows
import Derived.Test.YtalpcnomfebdiaaQPredRulesx17
import Derived.Test.YtalpcnomfebdiaaPurePredRules
import Derived.WalkKit
import Derived.ProofKit
import Derived.OpenShut
import Derived.ShutString
import Derived.ChangeOld
import Derived.Below
import Derived.SizedLaws
import Derived.Test.YtalpcnomfebdiaaWSized
import Derived.Test.YtalpcnomfebdiaaOpens
namespace Go.Proofs.Ytalpcnomfebdiaa.predRules
open Go.Proofs.Ytalpcnomfebdiaa.Opens Go.Proofs.Ytalpcnomfebdiaa.QPredRules Go.Proofs.YtalpcnomfebdiaaW.PrintWords
open Go.ChangeShapes Go.WideShapes Go.ChangeAt Go.RowKit
open Go.ChangeMaps (open_string shut_string)
set_option linter.unusedVariables false
theorem own : ownKnob Try.prog.godebug = none := by kernel_rfl
theorem laidOut : laidOutB Try.prog = true := by kernel_rfl
def IsRow (k : IntKind) (w : World) (a : Option Addr) (len cap : Nat) (zs : List Int) : Prop :=
  (a = none ∧ len = 0 ∧ cap = 0 ∧ zs = []) ∨
  ∃ x, a = some x ∧ len ≤ cap ∧ cap ≤ maxLen ∧ zs.length = cap ∧ (∀ i, i < zs.length → w.cell? (x.add i) = some (.int k (zs.getD i 0))) ∧ ∀ n ∈ zs, (Lit.int k n).wf = true
set_option maxRecDepth 100000 in
theorem opens_at_T25 : ∀ N fuel, fuel ≤ N → OpensAt k25 Try.prog 25 (fun x => ok25 x) fuel := by
  intro N
  induction N with
  | zero =>
    intro fuel hf H enc w cs x h
    obtain rfl : fuel = 0 := by omega
    simp [DataW.trod] at h
  | succ N ih0 =>
    intro fuel hf H enc w cs x h
    obtain ⟨xs, m, em, _, hl, hxl0, hx⟩ := DataW.trod_struct Try.underlying25 h
    have ih : ∀ n, n < m → OpensAt k25 Try.prog 25 (fun x => ok25 x) n := fun n hn => ih0 n (by omega)
    rw [show Try.prog.cellsOf 25 = 7 from by kernel_rfl] at hl
    have hxl : xs.length = 7 := hxl0
    obtain ⟨c0, c1, c2, c3, c4, c5, c6, rfl⟩ : ∃ c0 c1 c2 c3 c4 c5 c6, cs = [c0, c1, c2, c3, c4, c5, c6] := by
      match cs, hl with
      | [c0, c1, c2, c3, c4, c5, c6], _ => exact ⟨_, _, _, _, _, _, _, rfl⟩
    have h0 : DataW.trod enc Try.prog w 0 (fun _ => true) true m 3 [c0] = xs[0]? := by
      have h_ : DataW.trod enc Try.prog w 0 (fun _ => true) true m 3 (List.take (Try.prog.cellsOf 3) (List.drop 0 [c0, c1, c2, c3, c4, c5, c6])) = xs[0]? := hx 0 _ rfl
      rw [show Try.prog.cellsOf 3 = 1 from by kernel_rfl] at h_
      exact h_
    rw [List.getElem?_eq_getElem (by omega)] at h0
    obtain ⟨a0, K0, o0⟩ := (opens_int Try.underlying3) enc w m _ _ h0
    have h1 : DataW.trod enc Try.prog w 0 (fun _ => true) true m 9 [c1] = xs[1]? := by
      have h_ : DataW.trod enc Try.prog w 0 (fun _ => true) true m 9 (List.take (Try.prog.cellsOf 9) (List.drop 1 [c0, c1, c2, c3, c4, c5, c6])) = xs[1]? := hx 1 _ rfl
      rw [show Try.prog.cellsOf 9 = 1 from by kernel_rfl] at h_
      exact h_
    rw [List.getElem?_eq_getElem (by omega)] at h1
    obtain ⟨a1, K1, o1⟩ := (opens_string Try.underlying9) enc w m _ _ h1
    have h2 : DataW.trod enc Try.prog w 0 (fun _ => true) true m 2 [c2] = xs[2]? := by
      have h_ : DataW.trod enc Try.prog w 0 (fun _ => true) true m 2 (List.take (Try.prog.cellsOf 2) (List.drop 2 [c0, c1, c2, c3, c4, c5, c6])) = xs[2]? := hx 2 _ rfl
      rw [show Try.prog.cellsOf 2 = 1 from by kernel_rfl] at h_
      exact h_
    rw [List.getElem?_eq_getElem (by omega)] at h2
    obtain ⟨a2, K2, o2⟩ := (opens_int Try.underlying2) enc w m _ _ h2
    have h3 : DataW.trod enc Try.prog w 0 (fun _ => true) true m 2 [c3] = xs[3]? := by
      have h_ : DataW.trod enc Try.prog w 0 (fun _ => true) true m 2 (List.take (Try.prog.cellsOf 2) (List.drop 3 [c0, c1, c2, c3, c4, c5, c6])) = xs[3]? := hx 3 _ rfl
      rw [show Try.prog.cellsOf 2 = 1 from by kernel_rfl] at h_
      exact h_
    rw [List.getElem?_eq_getElem (by omega)] at h3
    obtain ⟨a3, K3, o3⟩ := (opens_int Try.underlying2) enc w m _ _ h3
    have h4 : DataW.trod enc Try.prog w 0 (fun _ => true) true m 9 [c4] = xs[4]? := by
      have h_ : DataW.trod enc Try.prog w 0 (fun _ => true) true m 9 (List.take (Try.prog.cellsOf 9) (List.drop 4 [c0, c1, c2, c3, c4, c5, c6])) = xs[4]? := hx 4 _ rfl
      rw [show Try.prog.cellsOf 9 = 1 from by kernel_rfl] at h_
      exact h_
    rw [List.getElem?_eq_getElem (by omega)] at h4
    obtain ⟨a4, K4, o4⟩ := (opens_string Try.underlying9) enc w m _ _ h4
    have h5 : DataW.trod enc Try.prog w 0 (fun _ => true) true m 22 [c5] = xs[5]? := by
      have h_ : DataW.trod enc Try.prog w 0 (fun _ => true) true m 22 (List.take (Try.prog.cellsOf 22) (List.drop 5 [c0, c1, c2, c3, c4, c5, c6])) = xs[5]? := hx 5 _ rfl
      rw [show Try.prog.cellsOf 22 = 1 from by kernel_rfl] at h_
      exact h_
    rw [List.getElem?_eq_getElem (by omega)] at h5
    obtain ⟨a5, K5, o5⟩ := (opens_slice Try.underlying22 (by kernel_rfl) (opens_string Try.underlying9)) enc w m _ _ h5
    have h6 : DataW.trod enc Try.prog w 0 (fun _ => true) true m 23 [c6] = xs[6]? := by
      have h_ : DataW.trod enc Try.prog w 0 (fun _ => true) true m 23 (List.take (Try.prog.cellsOf 23) (List.drop 6 [c0, c1, c2, c3, c4, c5, c6])) = xs[6]? := hx 6 _ rfl
      rw [show Try.prog.cellsOf 23 = 1 from by kernel_rfl] at h_
      exact h_
    rw [List.getElem?_eq_getElem (by omega)] at h6
    obtain ⟨a6, K6, o6⟩ := opens_slice_at Try.underlying23 (by kernel_rfl) (fun n hn => ih n (by omega)) enc w _ _ h6
    have e0 : [c0] = [.int .i64 a0] := K0
    injection e0 with e0 _
    subst e0
    have e1 : [c1] = [.string a1] := K1
    injection e1 with e1 _
    subst e1
    have e2 : [c2] = [.int .i64 a2] := K2
    injection e2 with e2 _
    subst e2
    have e3 : [c3] = [.int .i64 a3] := K3
    injection e3 with e3 _
    subst e3
    have e4 : [c4] = [.string a4] := K4
    injection e4 with e4 _
    subst e4
    obtain ⟨A5, q5, e5, l5, g5⟩ := K5
    injection e5 with e5 _
    subst e5
    obtain ⟨A6, q6, e6, l6, g6⟩ := K6
    injection e6 with e6 _
    subst e6
    exact ⟨⟨a0, a1, a2, a3, a4, a5, a6⟩, k25_mk w ⟨a0, a1, a2, a3, a4, a5, a6⟩ l5 g5 l6 g6, .mk o0 o1 o2 o3 o4 o5 o6.1 o6.2⟩
theorem opens_T25 : Opens k25 Try.prog 25 (fun x => ok25 x) := fun enc w fuel cs x h => opens_at_T25 fuel fuel (Nat.le_refl _) enc w cs x h
theorem opens_T52 : Opens k52 Try.prog 52 (fun x => ok52 x) := by
  intro H enc w fuel cs x h
  obtain ⟨xs, m, em, _, hl, hxl0, hx⟩ := DataW.trod_struct Try.underlying52 h
  rw [show Try.prog.cellsOf 52 = 4 from by kernel_rfl] at hl
  have hxl : xs.length = 4 := hxl0
  obtain ⟨c0, c1, c2, c3, rfl⟩ : ∃ c0 c1 c2 c3, cs = [c0, c1, c2, c3] := by
    match cs, hl with
    | [c0, c1, c2, c3], _ => exact ⟨_, _, _, _, rfl⟩
  have h0 : DataW.trod enc Try.prog w 0 (fun _ => true) true m 9 [c0] = xs[0]? := by
    have h_ : DataW.trod enc Try.prog w 0 (fun _ => true) true m 9 (List.take (Try.prog.cellsOf 9) (List.drop 0 [c0, c1, c2, c3])) = xs[0]? := hx 0 _ rfl
    rw [show Try.prog.cellsOf 9 = 1 from by kernel_rfl] at h_
    exact h_
  rw [List.getElem?_eq_getElem (by omega)] at h0
  obtain ⟨a0, K0, o0⟩ := (opens_string Try.underlying9) enc w m _ _ h0
  have h1 : DataW.trod enc Try.prog w 0 (fun _ => true) true m 3 [c1] = xs[1]? := by
    have h_ : DataW.trod enc Try.prog w 0 (fun _ => true) true m 3 (List.take (Try.prog.cellsOf 3) (List.drop 1 [c0, c1, c2, c3])) = xs[1]? := hx 1 _ rfl
    rw [show Try.prog.cellsOf 3 = 1 from by kernel_rfl] at h_
    exact h_
  rw [List.getElem?_eq_getElem (by omega)] at h1
  obtain ⟨a1, K1, o1⟩ := (opens_int Try.underlying3) enc w m _ _ h1
  have h2 : DataW.trod enc Try.prog w 0 (fun _ => true) true m 2 [c2] = xs[2]? := by
    have h_ : DataW.trod enc Try.prog w 0 (fun _ => true) true m 2 (List.take (Try.prog.cellsOf 2) (List.drop 2 [c0, c1, c2, c3])) = xs[2]? := hx 2 _ rfl
    rw [show Try.prog.cellsOf 2 = 1 from by kernel_rfl] at h_
    exact h_
  rw [List.getElem?_eq_getElem (by omega)] at h2
  obtain ⟨a2, K2, o2⟩ := (opens_int Try.underlying2) enc w m _ _ h2
  have h3 : DataW.trod enc Try.prog w 0 (fun _ => true) true m 9 [c3] = xs[3]? := by
    have h_ : DataW.trod enc Try.prog w 0 (fun _ => true) true m 9 (List.take (Try.prog.cellsOf 9) (List.drop 3 [c0, c1, c2, c3])) = xs[3]? := hx 3 _ rfl
    rw [show Try.prog.cellsOf 9 = 1 from by kernel_rfl] at h_
    exact h_
  rw [List.getElem?_eq_getElem (by omega)] at h3
  obtain ⟨a3, K3, o3⟩ := (opens_string Try.underlying9) enc w m _ _ h3
  exact ⟨⟨a0, a1, a2, a3⟩, ⟨[c0], [c1, c2, c3], rfl, K0, ⟨[c1], [c2, c3], rfl, K1, ⟨[c2], [c3], rfl, K2, K3⟩⟩⟩, ⟨o0, o1, o2, o3⟩⟩
theorem opens_T36 : Opens k36 Try.prog 36 (fun x => ok36 x) := by
  intro H enc w fuel cs x h
  obtain ⟨xs, m, em, _, hl, hxl0, hx⟩ := DataW.trod_struct Try.underlying36 h
  rw [show Try.prog.cellsOf 36 = 3 from by kernel_rfl] at hl
  have hxl : xs.length = 3 := hxl0
  obtain ⟨c0, c1, c2, rfl⟩ : ∃ c0 c1 c2, cs = [c0, c1, c2] := by
    match cs, hl with
    | [c0, c1, c2], _ => exact ⟨_, _, _, rfl⟩
  have h0 : DataW.trod enc Try.prog w 0 (fun _ => true) true m 2 [c0] = xs[0]? := by
    have h_ : DataW.trod enc Try.prog w 0 (fun _ => true) true m 2 (List.take (Try.prog.cellsOf 2) (List.drop 0 [c0, c1, c2])) = xs[0]? := hx 0 _ rfl
    rw [show Try.prog.cellsOf 2 = 1 from by kernel_rfl] at h_
    exact h_
  rw [List.getElem?_eq_getElem (by omega)] at h0
  obtain ⟨a0, K0, o0⟩ := (opens_int Try.underlying2) enc w m _ _ h0
  have h1 : DataW.trod enc Try.prog w 0 (fun _ => true) true m 3 [c1] = xs[1]? := by
    have h_ : DataW.trod enc Try.prog w 0 (fun _ => true) true m 3 (List.take (Try.prog.cellsOf 3) (List.drop 1 [c0, c1, c2])) = xs[1]? := hx 1 _ rfl
    rw [show Try.prog.cellsOf 3 = 1 from by kernel_rfl] at h_
    exact h_
  rw [List.getElem?_eq_getElem (by omega)] at h1
  obtain ⟨a1, K1, o1⟩ := (opens_int Try.underlying3) enc w m _ _ h1
  have h2 : DataW.trod enc Try.prog w 0 (fun _ => true) true m 34 [c2] = xs[2]? := by
    have h_ : DataW.trod enc Try.prog w 0 (fun _ => true) true m 34 (List.take (Try.prog.cellsOf 34) (List.drop 2 [c0, c1, c2])) = xs[2]? := hx 2 _ rfl
    rw [show Try.prog.cellsOf 34 = 1 from by kernel_rfl] at h_
    exact h_
  rw [List.getElem?_eq_getElem (by omega)] at h2
  obtain ⟨a2, K2, o2⟩ := (opens_slice Try.underlying34 (by kernel_rfl) opens_T52) enc w m _ _ h2
  exact ⟨⟨a0, a1, a2⟩, ⟨[c0], [c1, c2], rfl, K0, ⟨[c1], [c2], rfl, K1, K2⟩⟩, ⟨o0, o1, o2⟩⟩
set_option maxRecDepth 100000 in
theorem lifted (os : Os) (started : os.Started) (H : Type) (enc : TypeId × Value → H) :
    ReturnsInHanded {} Try.checked os 6 .any (Rows.predRulesSpec.pre6 enc Try.prog Try.f6 Rows.predRulesRow.domain false) (Rows.predRulesSpec.post enc Try.prog Try.f6 false true false false) := by
  refine returnsInHanded_of_change_sized (C := Try.checked) own started (by kernel_rfl) Try.func6
    (ChangeSpec.witness6 (enc := enc) (C := Try.checked) false ⟨#[], #[.agg #[.int .i64 0, .string ByteArray.empty, .int .i64 0, .int .i64 0, .string ByteArray.empty, .slice none 0 0, .slice none 0 0], .agg #[.int .i64 0, .int .i64 0, .slice none 0 0], .int .i64 0, .string ByteArray.empty], []⟩ 8 (by kernel_rfl) (by kernel_rfl) (by kernel_rfl) (by kernel_rfl)) ?_
  intro W base args ds gs before hval0 hW hcnd hsz0 _
  have hsz : (DataW.weightsEach Try.prog (Try.f6.params.toList ++ Rows.predRulesSpec.plain.varTypes Try.prog) (ds ++ gs)).all (· ≤ reachBytes) = true := hsz0
  have hval : ∀ (j : Nat) t v, Try.f6.params[j]? = some t → args[j]? = some v → Value.okWide Try.prog W .any base t v := hval0
  have hW' := hW
  obtain ⟨p, q, hA0, hV, rfl, hfz, hnd⟩ := hW
  have hA : DataW.TrodAll enc Try.prog W 0 (fun _ => true) true Try.f6.params.toList args.toList ds p := hA0
  rw [Try.params6] at hA hval hsz
  obtain ⟨v0, vs0, d0, ds0, p0, q0, hargs, rfl, rfl, h0, r0⟩ := trodAll_cons hA
  obtain ⟨v1, vs1, d1, ds1, p1, q1, rfl, rfl, rfl, h1, r1⟩ := trodAll_cons r0
  obtain ⟨v2, vs2, d2, ds2, p2, q2, rfl, rfl, rfl, h2, r2⟩ := trodAll_cons r1
  obtain ⟨v3, vs3, d3, ds3, p3, q3, rfl, rfl, rfl, h3, r3⟩ := trodAll_cons r2
  obtain ⟨rfl, rfl, rfl⟩ := trodAll_nil r3
  obtain rfl : args = #[v0, v1, v2, v3] := by cases args; simp_all
  obtain ⟨rfl, rfl⟩ := trodVars_none hV
  obtain ⟨cs0, rfl, _⟩ := okWide_struct Try.underlying25 (hval 0 25 v0 rfl rfl)
  have k0_ := h0
  have lt0 : ∀ x ∈ p0, x.block < W.heap.size := by obtain ⟨m, hm⟩ := k0_; exact DataW.trod_lt m _ _ _ hm
  obtain ⟨x0, K0, ho0⟩ : ∃ x : S25, k25.K W x (Value.agg cs0).cells.toList ∧ ok25 x := by
    obtain ⟨fuel, hf⟩ := h0
    exact opens_T25 enc W fuel _ _ hf
  obtain ⟨A0_5, c0_5, A0_6, c0_6, e0, hc0_5, hr0_5, hc0_6, hr0_6⟩ := k25_open K0
  obtain rfl : cs0 = #[.int .i64 x0.f0, .string x0.f1, .int .i64 x0.f2, .int .i64 x0.f3, .string x0.f4, .slice A0_5 x0.f5.length c0_5, .slice A0_6 x0.f6.length c0_6] := Array.ext' e0
  obtain ⟨cs1, rfl, _⟩ := okWide_struct Try.underlying36 (hval 1 36 v1 rfl rfl)
  have k1_ := h1
  have lt1 : ∀ x ∈ p1, x.block < W.heap.size := by obtain ⟨m, hm⟩ := k1_; exact DataW.trod_lt m _ _ _ hm
  obtain ⟨x1, K1, ho1⟩ : ∃ x : S36, k36.K W x (Value.agg cs1).cells.toList ∧ ok36 x := by
    obtain ⟨fuel, hf⟩ := h1
    exact opens_T36 enc W fuel _ _ hf
  obtain ⟨A1_2, c1_2, e1, hc1_2, hr1_2⟩ := k36_open K1
  obtain rfl : cs1 = #[.int .i64 x1.f0, .int .i64 x1.f1, .slice A1_2 x1.f2.length c1_2] := Array.ext' e1
  obtain ⟨a2, rfl, rfl, rfl, w2⟩ := open_int Try.underlying2 (hval 2 2 v2 rfl rfl) h2
  obtain ⟨a3, rfl, rfl, rfl, y3⟩ := open_string Try.underlying9 (hval 3 9 v3 rfl rfl) h3
  have w3 : a3.size ≤ 140737488351232 := by
    have z := sized_string hsz (j := 3) (t := 9) rfl rfl
    rw [Array.length_toList] at z
    exact z
  clear hA0 hval0 hsz0 hsz
  refine (QPredRules.columbariumlaw13_PredRules.walk Pure.PredRules x0.f0 x0.f1 x0.f2 x0.f3 x0.f4 _ _ x0.f5 _ _ x0.f6 x1.f0 x1.f1 _ _ x1.f2 a2 a3 W ((match ho0 with | .mk h0 h1 h2 h3 h4 h5 h6 g6 => h0)) ((match ho0 with | .mk h0 h1 h2 h3 h4 h5 h6 g6 => h1)) ((match ho0 with | .mk h0 h1 h2 h3 h4 h5 h6 g6 => h2)) ((match ho0 with | .mk h0 h1 h2 h3 h4 h5 h6 g6 => h3)) ((match ho0 with | .mk h0 h1 h2 h3 h4 h5 h6 g6 => h4)) hr0_5 hc0_5 ((match ho0 with | .mk h0 h1 h2 h3 h4 h5 h6 g6 => h5)) hr0_6 hc0_6 ((match ho0 with | .mk h0 h1 h2 h3 h4 h5 h6 g6 => ⟨h6, g6⟩)) ((ho1).1) ((ho1).2.1) hr1_2 hc1_2 ((ho1).2.2) w2 w3).mono fun e W' ⟨he, bel⟩ => ?_
  subst he
  exact ⟨_, rfl, _, _, _, [], _, [], hW', trodAll_mk1 (shut_bool Try.underlying4 _), (trodAll_cons_mk (Below.trod laidOut (by kernel_rfl) (of_decide_eq_true (by kernel_rfl)) k0_ bel lt0) (trodAll_cons_mk (Below.trod laidOut (by kernel_rfl) (of_decide_eq_true (by kernel_rfl)) k1_ bel lt1) (trodAll_cons_mk (shut_int Try.underlying2 w2) (trodAll_cons_mk (shut_string Try.underlying9 y3) trodAll_mk0)))), rfl, bel.frame _, fun h => by cases h⟩
theorem over : Rows.predRulesRow.holds Try.pinned (OpenSpec.ofChange Rows.predRulesSpec) :=
  OpenClaim.holds_of_wide 6 Try.f6 rfl rfl rfl rfl rfl rfl rfl ⟨rfl, rfl, rfl, rfl, rfl⟩ rfl rfl rfl rfl rfl (by kernel_rfl) Try.func6 (by kernel_rfl)
    (of_decide_eq_true (by kernel_rfl)) (by unfold Func.isWrapper; first | (rw [if_pos (by decide +kernel)]; kernel_rfl) | (rw [if_neg (by decide +kernel)]; exact ⟨rfl, rfl⟩))
    (fun os started H enc _ => lifted os started H enc)
theorem proved : Rows.PredRulesSaid := over
#print axioms proved
end Go.Proofs.Ytalpcnomfebdiaa.predRules
namespace Go.Proofs.Ytalpcnomfebdiaa
/-- The row, under a short name, for the claim. -/
theorem predRules_holds : Rows.PredRulesSaid := predRules.proved
end Go.Proofs.Ytalpcnomfebdiaa
