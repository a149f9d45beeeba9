-- Written by a program of this session (wip/myprint.py): the machine's side of a law
import Derived.Test.YtalpcnomfebdiaaQPredRulesx0
import Derived.Test.YtalpcnomfebdiaaQPredRulesx1
import Derived.Test.YtalpcnomfebdiaaQPredRulesx5
import Derived.Test.YtalpcnomfebdiaaQPredRulesx10
import Derived.Test.YtalpcnomfebdiaaQPredRulesx11
import Derived.Test.YtalpcnomfebdiaaQPredRulesx12
import Derived.Test.YtalpcnomfebdiaaQPredRulesx13
import Derived.Test.YtalpcnomfebdiaaQPredRulesx14
import Derived.Test.YtalpcnomfebdiaaQPredRulesx15
import Derived.Test.YtalpcnomfebdiaaQPredRulesx16
namespace Go.Proofs.Ytalpcnomfebdiaa.QPredRules
open Go.RowKit Go.Proofs.YtalpcnomfebdiaaW.PrintWords Go.Proofs.YtalpcnomfebdiaaW.PrintLast Go.Proofs.YtalpcnomfebdiaaW.PrintMore
set_option linter.unusedVariables false
set_option linter.unusedSimpArgs false
/-- What may be read, of a struct of the type 25. -/
inductive ok25 : S25 → Prop where
 | mk {x : S25} (h0 : (Lit.int .i64 x.f0).wf = true) (h1 : x.f1.size ≤ maxLen) (h2 : (Lit.int .i64 x.f2).wf = true) (h3 : (Lit.int .i64 x.f3).wf = true) (h4 : x.f4.size ≤ maxLen) (h5 : (x.f5.length ≤ maxLen ∧ ∀ x_ ∈ x.f5, x_.size ≤ maxLen)) (h6 : x.f6.length ≤ maxLen) (g6 : ∀ x_ ∈ x.f6, ok25 x_) : ok25 x
/-- What may be read, of a struct of the type 52. -/
def ok52 (x : S52) : Prop := x.f0.size ≤ maxLen ∧ (Lit.int .i64 x.f1).wf = true ∧ (Lit.int .i64 x.f2).wf = true ∧ x.f3.size ≤ maxLen
/-- What may be read, of a struct of the type 36. -/
def ok36 (x : S36) : Prop := (Lit.int .i64 x.f0).wf = true ∧ (Lit.int .i64 x.f1).wf = true ∧ (x.f2.length ≤ maxLen ∧ ∀ x_ ∈ x.f2, ok52 x_)

/-- THE ONE PURE STATEMENT of columbariumlaw13_PredRules: yours. -/
def columbariumlaw13_PredRules.Pure : Prop := ∀ (a0_0 : Int) (a0_1 : ByteArray) (a0_2 : Int) (a0_3 : Int) (a0_4 : ByteArray) (l0_5 : List ByteArray) (l0_6 : List (S25)) (a1_0 : Int) (a1_1 : Int) (l1_2 : List (S52)) (a2 : Int) (a3 : ByteArray), (Lit.int .i64 a0_0).wf = true → a0_1.size ≤ maxLen → (Lit.int .i64 a0_2).wf = true → (Lit.int .i64 a0_3).wf = true → a0_4.size ≤ maxLen → (l0_5.length ≤ maxLen ∧ ∀ x_ ∈ l0_5, x_.size ≤ maxLen) → (l0_6.length ≤ maxLen ∧ ∀ x_ ∈ l0_6, ok25 x_) → (Lit.int .i64 a1_0).wf = true → (Lit.int .i64 a1_1).wf = true → (l1_2.length ≤ maxLen ∧ ∀ x_ ∈ l1_2, ok52 x_) → (Lit.int .i64 a2).wf = true → a3.size ≤ 140737488351232 → ∃ k, columbariumlaw13_PredRules.f k a0_0 a0_1 a0_2 a0_3 a0_4 l0_5 l0_6 a1_0 a1_1 l1_2 a2 a3 = some true
theorem columbariumlaw13_PredRules.walk (P : columbariumlaw13_PredRules.Pure) (a0_0 : Int) (a0_1 : ByteArray) (a0_2 : Int) (a0_3 : Int) (a0_4 : ByteArray) (A0_5 : Option Addr) (c0_5 : Nat) (l0_5 : List ByteArray) (A0_6 : Option Addr) (c0_6 : Nat) (l0_6 : List (S25)) (a1_0 : Int) (a1_1 : Int) (A1_2 : Option Addr) (c1_2 : Nat) (l1_2 : List (S52)) (a2 : Int) (a3 : ByteArray) (w : World) (ho0_0 : (Lit.int .i64 a0_0).wf = true) (ho0_1 : a0_1.size ≤ maxLen) (ho0_2 : (Lit.int .i64 a0_2).wf = true) (ho0_3 : (Lit.int .i64 a0_3).wf = true) (ho0_4 : a0_4.size ≤ maxLen) (hr0_5 : Kd.C Kd.string w A0_5 l0_5.length l0_5) (hc0_5 : l0_5.length ≤ c0_5) (ho0_5 : (l0_5.length ≤ maxLen ∧ ∀ x_ ∈ l0_5, x_.size ≤ maxLen)) (hr0_6 : Kd.C k25 w A0_6 l0_6.length l0_6) (hc0_6 : l0_6.length ≤ c0_6) (ho0_6 : (l0_6.length ≤ maxLen ∧ ∀ x_ ∈ l0_6, ok25 x_)) (ho1_0 : (Lit.int .i64 a1_0).wf = true) (ho1_1 : (Lit.int .i64 a1_1).wf = true) (hr1_2 : Kd.C k52 w A1_2 l1_2.length l1_2) (hc1_2 : l1_2.length ≤ c1_2) (ho1_2 : (l1_2.length ≤ maxLen ∧ ∀ x_ ∈ l1_2, ok52 x_)) (w2 : (Lit.int .i64 a2).wf = true) (w3 : a3.size ≤ 140737488351232) :
  Calls Try.prog 6 #[.agg #[.int .i64 a0_0, .string a0_1, .int .i64 a0_2, .int .i64 a0_3, .string a0_4, .slice A0_5 l0_5.length c0_5, .slice A0_6 l0_6.length c0_6], .agg #[.int .i64 a1_0, .int .i64 a1_1, .slice A1_2 l1_2.length c1_2], .int .i64 a2, .string a3] w fun e w' => e = .returned (.bool true) ∧ Below w.heap.size w w' := by
 obtain ⟨k, h⟩ := P a0_0 a0_1 a0_2 a0_3 a0_4 l0_5 l0_6 a1_0 a1_1 l1_2 a2 a3 ho0_0 ho0_1 ho0_2 ho0_3 ho0_4 ho0_5 ho0_6 ho1_0 ho1_1 ho1_2 w2 w3
 refine (columbariumlaw13_PredRules.calls k a0_0 a0_1 a0_2 a0_3 a0_4 _ _ l0_5 _ _ l0_6 a1_0 a1_1 _ _ l1_2 a2 a3 true w hr0_5 hc0_5 hr0_6 hc0_6 hr1_2 hc1_2 ⟨rfl⟩ h).mono ?_
 rintro e w' ⟨rfl, hd⟩
 exact ⟨rfl, hd⟩

end Go.Proofs.Ytalpcnomfebdiaa.QPredRules
