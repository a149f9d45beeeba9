/- A region that draws its order, walked by hand with a condition on the world that grows; behind the operations of ds (stores that come last) nothing is asked. -/
import Derived.Deep.RegionHeld3
import Derived.Test.YtoninmgglcepmaaWLast
import Derived.Test.YtoninmgglcepmaaR
namespace Go.Proofs.Ytoninmgglcepmaa.RegD
open Go.RowKit Go.Proofs.YtoninmgglcepmaaW.PrintLast Reg
set_option linter.unusedVariables false
section
variable {P : Program} {ops : Array Oper} {Q : Exit → Act → World → Prop} {S : World → Prop} {ds : List Nat}
def wpAnyD (P : Program) (ops : Array Oper) (Q : Exit → Act → World → Prop) (S : World → Prop) (ds : List Nat) : Nat → Array Bool → Act → World → Prop
  | 0, listed, a, w => Region.ready .any ops listed = [] ∧ Q .normal a w
  | fuel + 1, listed, a, w =>
    (Region.ready .any ops listed = [] → Q .normal a w) ∧
    ∀ i ∈ Region.ready .any ops listed, wpOp P ops Q i (fun a' w' => (i ∉ ds → S w') ∧ wpAnyD P ops Q S ds fuel (listed.setIfInBounds i true) a' w') a w
theorem wpAny_of_D : ∀ (fuel : Nat) (listed : Array Bool) (a : Act) (w : World), wpAnyD P ops Q S ds fuel listed a w → wpAny P .any ops Q fuel listed a w
  | 0, _, _, _, h => h
  | fuel + 1, _, _, _, h => ⟨h.1, fun i hi => wpOp_mono (fun a' w' h' => wpAny_of_D fuel _ a' w' h'.2) (h.2 i hi)⟩
theorem more {S' : World → Prop} (hs : ∀ w, S' w → S w) : ∀ (fuel : Nat) (l : Array Bool) (a : Act) (w : World), wpAnyD P ops Q S' ds fuel l a w → wpAnyD P ops Q S ds fuel l a w
  | 0, _, _, _, h => h
  | fuel + 1, _, _, _, h => ⟨h.1, fun i hi => wpOp_mono (fun a' w' h' => ⟨fun hn => hs _ (h'.1 hn), more hs fuel _ a' w' h'.2⟩) (h.2 i hi)⟩
theorem wpAnyD_first {i : Nat} {oi : Oper} {v : Value} (hi : ops[i]? = some oi) (hsel : ∀ (j : Nat) (o : Oper) cs b, ops[j]? = some o → o.op ≠ .select cs b)
    (hQ : ∀ c a w, Q (.panic c) (a.put oi.dst v) w → Q (.panic c) a w) (n : Nat) :
    ∀ (fuel : Nat) (listed : Array Bool) (a : Act) (w : World),
      (∀ j oj, ops[j]? = some oj → j ≠ i → listed.getD j true = false → (∀ e ∈ oj.after, Region.binds .any e = true → e.on ≠ i) → oi.apart ops oj = true) →
      ListedClosed .any ops listed → (∀ d ∈ ds, listed.getD d true = false → Region.reachB .any ops i n d = true) →
      i ∈ Region.ready .any ops listed → YieldsIf P ops S oi v a → S w →
      wpAnyD P ops Q S ds fuel (listed.setIfInBounds i true) (a.put oi.dst v) w → wpAnyD P ops Q S ds (fuel + 1) listed a w := by
  intro fuel
  induction fuel with
  | zero =>
    intro listed a w _ _ _ hr hy hS H
    refine ⟨fun h => (by rw [h] at hr; cases hr), fun j hj => ?_⟩
    by_cases hji : j = i
    · subst hji; exact hy.wpOp hi hS ⟨fun _ => hS, H⟩
    · have := ready_mono hj hji
      rw [H.1] at this
      cases this
  | succ fuel ih =>
    intro listed a w hfree hc hd hr hy hS H
    refine ⟨fun h => (by rw [h] at hr; cases hr), fun j hj => ?_⟩
    by_cases hji : j = i
    · subst hji; exact hy.wpOp hi hS ⟨fun _ => hS, H⟩
    · have h1 := H.2 j (ready_mono hj hji)
      obtain ⟨hjun, oj, hoj, hall⟩ := mem_ready.1 hj
      have hiun := (mem_ready.1 hr).1
      have hnot : ∀ e ∈ oj.after, Region.binds .any e = true → e.on ≠ i := fun e he hb heq => by
        have h1 := hall e he hb
        rw [heq] at h1
        rcases Nat.lt_or_ge i listed.size with h' | h'
        · simp [h'] at hiun h1; rw [hiun] at h1; cases h1
        · simp [Array.getElem?_eq_none h'] at h1
      have hjd : j ∉ ds := fun hm => Region.reach_not_ready hc (hd j hm hjun) hiun hj
      have h2 := wpOp_putIf hoj (hfree j oj hoj hji hjun hnot) (fun cs b => hsel i oi cs b hi) (fun cs b => hsel j oj cs b hoj) hQ hy h1
      have hfree' : ∀ k ok, ops[k]? = some ok → k ≠ i → (listed.setIfInBounds j true).getD k true = false →
          (∀ e ∈ ok.after, Region.binds .any e = true → e.on ≠ i) → oi.apart ops ok = true := fun k ok hk hki hun hno => by
        refine hfree k ok hk hki ?_ hno
        by_cases hjk : j = k
        · subst hjk; exact hjun
        · rw [getD_set_ne true hjk] at hun; exact hun
      have hd' : ∀ d ∈ ds, (listed.setIfInBounds j true).getD d true = false → Region.reachB .any ops i n d = true := fun d hm hun => by
        refine hd d hm ?_
        by_cases hjk : j = d
        · subst hjk; exact hjun
        · rw [getD_set_ne true hjk] at hun; exact hun
      refine wpOp_mono (fun a' w' h3 => ⟨h3.2.1, ih (listed.setIfInBounds j true) a' w' hfree' (hc.set hj) hd' (ready_mono hr (Ne.symm hji)) h3.1 (h3.2.1 hjd) ?_⟩) h2
      rw [Array.setIfInBounds_comm _ _ hji]
      exact h3.2.2
def pureB (ops : Array Oper) (ds : List Nat) (l l' : Array Bool) (i : Nat) : Bool :=
  Region.noSelect ops && Region.free .any ops l i && (Region.ready .any ops l).contains i && Region.closedB .any ops l && Region.lastB .any ops l ds i && (l.setIfInBounds i true == l')
theorem hstart {id : Nat} {a : Act} {w : World} (S : World → Prop) (ds : List Nat) (n : Nat) (hm : P.follows .mixedOrders = true) (hn : ops.size = n) (hl : (Array.replicate n false == ls n 0 []) = true) (hS : S w.drew)
    (h : ∀ w', w' = w.drew → S w' → wpAnyD P ops (NoPanic Q) S ds n (ls n 0 []) a w') : (Code.region id ops true).wp P Q a w := by
  refine wp_region_noPanic ?_
  subst hn
  refine wp_region_any hm (wpAny_of_D (S := S) (ds := ds) _ _ _ _ ?_)
  rw [eq_of_beq hl]
  exact h _ rfl hS
/-- Number i yields, whatever the order. -/
theorem hpure {n k : Nat} {ex : List Nat} {fuel : Nat} {a : Act} {w : World} (i : Nat) (N : Option Tmp) (k' : Nat) (ex' : List Nat) {oi : Oper} {v : Value} (hS : S w) (hi : ops[i]? = some oi) (hN : oi.dst = N) (hc : pureB ops ds (ls n k ex) (ls n k' ex') i = true)
    (hy : YieldsIf P ops S oi v a) {a' : Act} (ha : a.put N v = a')
    (h : wpAnyD P ops (NoPanic Q) S ds fuel (ls n k' ex') a' w) : wpAnyD P ops (NoPanic Q) S ds (fuel + 1) (ls n k ex) a w := by
  subst ha
  subst hN
  simp only [pureB, Bool.and_eq_true, beq_iff_eq] at hc
  obtain ⟨⟨⟨⟨⟨h1, h2⟩, h3⟩, h4⟩, h5⟩, h6⟩ := hc
  exact wpAnyD_first hi (Region.noSelect_spec h1) (fun _ _ _ h => h) ops.size fuel _ a w (Region.free_spec hi h2) (Region.closedB_spec h4)
    (fun d hm hun => by have := List.all_eq_true.1 h5 d hm; rw [hun] at this; simpa using this) (by simpa using h3) hy hS (by rw [h6]; exact h)
/-- An operation, the one that may come up: behind it more may be known (or, if it is of ds, what one likes). -/
theorem hone {n k : Nat} {ex : List Nat} {fuel : Nat} {a : Act} {w : World} (i : Nat) (N : Option Tmp) (k' : Nat) (ex' : List Nat) {oi : Oper} (hi : ops[i]? = some oi) (hN : oi.dst = N) (hc : oneB ops (ls n k ex) (ls n k' ex') i = true)
    (h : ∀ K : Act → World → Prop, Shut (∀ (S' : World → Prop) (a' : Act) (w' : World), (∀ w, S' w → S w) → (i ∉ ds → S' w') → wpAnyD P ops (NoPanic Q) S' ds fuel (ls n k' ex') a' w' → K a' w') → if Region.wanted oi (yielded ops a.tmps) = true then Oper.wp P oi a w K (NoPanic Q) else K (a.put N undef) w) :
    wpAnyD P ops (NoPanic Q) S ds (fuel + 1) (ls n k ex) a w := by
  subst hN
  simp only [oneB, Bool.and_eq_true, beq_iff_eq] at hc
  refine ⟨fun h0 => (by rw [hc.1] at h0; cases h0), fun j hj => ?_⟩
  rw [hc.1] at hj
  obtain rfl := List.mem_singleton.1 hj
  refine wpOp_step hi (fun K hK => h K (fun S' a' w' hs h1 h2 => hK a' w' ⟨fun hn => hs _ (h1 hn), ?_⟩))
  rw [hc.2]
  exact more hs _ _ _ _ h2
/-- A call. -/
theorem hcall {n k : Nat} {ex : List Nat} {fuel : Nat} {a : Act} {w : World} (i : Nat) (N : Option Tmp) (k' : Nat) (ex' : List Nat) {oi : Oper} {f : FuncId} {fn : Func} {as : Array Operand} {ts : Array TypeId} (hi : ops[i]? = some oi) (hN : oi.dst = N) (hc : oneB ops (ls n k ex) (ls n k' ex') i = true)
    (hf : P.funcs[f]? = some fn) (hname : (fn.name == "runtime.NumGoroutine") = false) (hb : fn.body.isSome = true) (args : Array Value)
    (hw : Region.wanted oi (yielded ops a.tmps) = true) (hop : oi.op = .call { callee := .value (.func f), args := as, argTypes := ts }) (hargs : as.map a.eval = args)
    (h : Calls P f args w fun e w' => ∃ v, e = .returned v ∧ ∃ S' : World → Prop, (∀ w, S' w → S w) ∧ (i ∉ ds → S' w') ∧ ∀ a', a.put N v = a' → wpAnyD P ops (NoPanic Q) S' ds fuel (ls n k' ex') a' w') :
    wpAnyD P ops (NoPanic Q) S ds (fuel + 1) (ls n k ex) a w :=
  hone i N k' ex' hi hN hc fun K hK => goes_ hf hname hb args hw hN hop hargs (h.mono fun e w' ⟨v, he, S', hs, h1, h2⟩ => ⟨v, he, hK.out _ _ _ hs h1 (h2 _ rfl)⟩)
theorem hdone {n k : Nat} {ex : List Nat} {fuel : Nat} {a : Act} {w : World} (hr : (Region.ready .any ops (ls n k ex) == []) = true) (h : Q .normal a w) : wpAnyD P ops (NoPanic Q) S ds fuel (ls n k ex) a w := by
  cases fuel with
  | zero => exact ⟨eq_of_beq hr, h⟩
  | succ f => exact ⟨fun _ => h, fun j hj => by rw [eq_of_beq hr] at hj; cases hj⟩
end
end Go.Proofs.Ytoninmgglcepmaa.RegD
