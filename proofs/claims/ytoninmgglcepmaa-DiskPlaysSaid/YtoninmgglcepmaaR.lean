/- A region that draws its order, walked by hand with a condition on the world that grows: steps whose state of the walk is written short. -/
import Derived.Deep.RegionHeld3
import Derived.Test.YtoninmgglcepmaaWLast
namespace Go.Proofs.Ytoninmgglcepmaa.Reg
open Go.RowKit Go.Proofs.YtoninmgglcepmaaW.PrintLast
set_option linter.unusedVariables false
/-- Of n operations the first k have come up, and those of ex. -/
def ls (n k : Nat) (ex : List Nat) : Array Bool := ((List.range n).map fun i => decide (i < k) || ex.contains i).toArray
section
variable {P : Program} {ops : Array Oper} {Q : Exit → Act → World → Prop} {S : World → Prop}
theorem more {S' : World → Prop} (hs : ∀ w, S' w → S w) : ∀ (fuel : Nat) (l : Array Bool) (a : Act) (w : World), wpAnyH P .any ops Q S' fuel l a w → wpAnyH P .any ops Q S fuel l a w
  | 0, _, _, _, h => h
  | fuel + 1, _, _, _, h => ⟨h.1, fun i hi => wpOp_mono (fun a' w' h' => ⟨hs _ h'.1, more hs fuel _ a' w' h'.2⟩) (h.2 i hi)⟩
theorem hstart {id : Nat} {a : Act} {w : World} (S : World → Prop) (n : Nat) (hm : P.follows .mixedOrders = true) (hn : ops.size = n) (hl : (Array.replicate n false == ls n 0 []) = true) (hS : S w.drew)
    (h : ∀ w', w' = w.drew → S w' → wpAnyH P .any ops (NoPanic Q) S n (ls n 0 []) a w') : (Code.region id ops true).wp P Q a w := by
  refine wp_region_noPanic ?_
  subst hn
  refine wp_region_held_drew (S := S) hm hS (fun hh => ?_)
  rw [eq_of_beq hl]
  exact h _ rfl hh
def pureB (ops : Array Oper) (l l' : Array Bool) (i : Nat) : Bool :=
  Region.noSelect ops && Region.free .any ops l i && (Region.ready .any ops l).contains i && (l.setIfInBounds i true == l')
/-- Number i yields, whatever the order. -/
theorem hpure {n k : Nat} {ex : List Nat} {fuel : Nat} {a : Act} {w : World} (i : Nat) (N : Option Tmp) (k' : Nat) (ex' : List Nat) {oi : Oper} {v : Value} (hS : S w) (hi : ops[i]? = some oi) (hN : oi.dst = N) (hc : pureB ops (ls n k ex) (ls n k' ex') i = true)
    (hy : YieldsIf P ops S oi v a) {a' : Act} (ha : a.put N v = a')
    (h : wpAnyH P .any ops (NoPanic Q) S fuel (ls n k' ex') a' w) : wpAnyH P .any ops (NoPanic Q) S (fuel + 1) (ls n k ex) a w := by
  subst ha
  subst hN
  simp only [pureB, Bool.and_eq_true, beq_iff_eq] at hc
  obtain ⟨⟨⟨h1, h2⟩, h3⟩, h6⟩ := hc
  exact wpAnyH_take hi h1 h2 h3 (fun _ _ _ h => h) hy hS (by rw [h6]; exact h)
def oneB (ops : Array Oper) (l l' : Array Bool) (i : Nat) : Bool := (Region.ready .any ops l == [i]) && (l.setIfInBounds i true == l')
/-- A call, the one that may come up: behind it more may be known. -/
theorem hcall {n k : Nat} {ex : List Nat} {fuel : Nat} {a : Act} {w : World} (i : Nat) (N : Option Tmp) (k' : Nat) (ex' : List Nat) {oi : Oper} {f : FuncId} {fn : Func} {as : Array Operand} {ts : Array TypeId} (hi : ops[i]? = some oi) (hN : oi.dst = N) (hc : oneB ops (ls n k ex) (ls n k' ex') i = true)
    (hf : P.funcs[f]? = some fn) (hname : (fn.name == "runtime.NumGoroutine") = false) (hb : fn.body.isSome = true) (args : Array Value)
    (hw : Region.wanted oi (yielded ops a.tmps) = true) (hop : oi.op = .call { callee := .value (.func f), args := as, argTypes := ts }) (hargs : as.map a.eval = args)
    (h : Calls P f args w fun e w' => ∃ v, e = .returned v ∧ ∃ S' : World → Prop, (∀ w, S' w → S w) ∧ S' w' ∧ ∀ a', a.put N v = a' → wpAnyH P .any ops (NoPanic Q) S' fuel (ls n k' ex') a' w') :
    wpAnyH P .any ops (NoPanic Q) S (fuel + 1) (ls n k ex) a w := by
  subst hN
  simp only [oneB, Bool.and_eq_true, beq_iff_eq] at hc
  refine wpAnyH_ready hc.1 (by simp) (AllReadyH.cons hi (fun K hK => ?_) AllReadyH.nil)
  refine goes_ hf hname hb args hw rfl hop hargs (h.mono fun e w' ⟨v, he, S', hs, h1, h2⟩ => ⟨v, he, hK.out _ _ (hs _ h1) (fun _ => ?_)⟩)
  rw [hc.2]
  exact more hs _ _ _ _ (h2 _ rfl)
/-- An operation that makes or writes memory, the one that may come up. -/
theorem hone {n k : Nat} {ex : List Nat} {fuel : Nat} {a : Act} {w : World} (i : Nat) (N : Option Tmp) (k' : Nat) (ex' : List Nat) {oi : Oper} (hi : ops[i]? = some oi) (hN : oi.dst = N) (hc : oneB ops (ls n k ex) (ls n k' ex') i = true)
    (h : ∀ K : Act → World → Prop, Shut (∀ (S' : World → Prop) (a' : Act) (w' : World), (∀ w, S' w → S w) → S' w' → wpAnyH P .any ops (NoPanic Q) S' fuel (ls n k' ex') a' w' → K a' w') → if Region.wanted oi (yielded ops a.tmps) = true then Oper.wp P oi a w K (NoPanic Q) else K (a.put N undef) w) :
    wpAnyH P .any ops (NoPanic Q) S (fuel + 1) (ls n k ex) a w := by
  subst hN
  simp only [oneB, Bool.and_eq_true, beq_iff_eq] at hc
  refine wpAnyH_ready hc.1 (by simp) (AllReadyH.cons hi (fun K hK => ?_) AllReadyH.nil)
  refine h K (fun S' a' w' hs h1 h2 => hK.out _ _ (hs _ h1) (fun _ => ?_))
  rw [hc.2]
  exact more hs _ _ _ _ h2
theorem hdone {n k : Nat} {ex : List Nat} {fuel : Nat} {a : Act} {w : World} (hr : (Region.ready .any ops (ls n k ex) == []) = true) (h : Q .normal a w) : wpAnyH P .any ops (NoPanic Q) S fuel (ls n k ex) a w :=
  wpAnyH_done (eq_of_beq hr) (NoPanic.normal h) fuel
end
end Go.Proofs.Ytoninmgglcepmaa.Reg
