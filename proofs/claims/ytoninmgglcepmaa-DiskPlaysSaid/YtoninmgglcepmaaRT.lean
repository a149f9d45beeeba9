/- Regions where two operations that make memory may come up in either order; rows that a region has made. -/
import Derived.Test.YtoninmgglcepmaaE2
namespace Go.Proofs.Ytoninmgglcepmaa.Dk
open Go.ChangeMaps hiding rd
open RegD Reg Go.RowKit Go.Proofs.YtoninmgglcepmaaW.PrintWords Go.Proofs.YtoninmgglcepmaaW.PrintLast Go.Proofs.YtoninmgglcepmaaW.PrintMore Mp QDiskPlays
set_option linter.unusedVariables false
section
variable {P : Program} {ops : Array Oper} {Q : Exit → Act → World → Prop} {S : World → Prop} {ds : List Nat}
def twoB (ops : Array Oper) (l l1 l2 : Array Bool) (i j : Nat) : Bool := (Region.ready .any ops l == [i, j]) && (l.setIfInBounds i true == l1) && (l.setIfInBounds j true == l2)
/-- Two operations may come up. -/
theorem htwo {n k : Nat} {ex : List Nat} {fuel : Nat} {a : Act} {w : World} (i j : Nat) (N1 N2 : Option Tmp) (k1 : Nat) (ex1 : List Nat) (k2 : Nat) (ex2 : List Nat) {oi oj : Oper} (hi : ops[i]? = some oi) (hj : ops[j]? = some oj) (hN1 : oi.dst = N1) (hN2 : oj.dst = N2) (hc : twoB ops (ls n k ex) (ls n k1 ex1) (ls n k2 ex2) i j = true)
    (h1 : ∀ K : Act → World → Prop, Shut (∀ (S' : World → Prop) (a' : Act) (w' : World), (∀ w, S' w → S w) → (i ∉ ds → S' w') → wpAnyD P ops (NoPanic Q) S' ds fuel (ls n k1 ex1) a' w' → K a' w') → if Region.wanted oi (yielded ops a.tmps) = true then Oper.wp P oi a w K (NoPanic Q) else K (a.put N1 undef) w)
    (h2 : ∀ K : Act → World → Prop, Shut (∀ (S' : World → Prop) (a' : Act) (w' : World), (∀ w, S' w → S w) → (j ∉ ds → S' w') → wpAnyD P ops (NoPanic Q) S' ds fuel (ls n k2 ex2) a' w' → K a' w') → if Region.wanted oj (yielded ops a.tmps) = true then Oper.wp P oj a w K (NoPanic Q) else K (a.put N2 undef) w) :
    wpAnyD P ops (NoPanic Q) S ds (fuel + 1) (ls n k ex) a w := by
  subst hN1 hN2
  simp only [twoB, Bool.and_eq_true, beq_iff_eq] at hc
  obtain ⟨⟨c1, c2⟩, c3⟩ := hc
  refine ⟨fun h0 => (by rw [c1] at h0; cases h0), fun q hq => ?_⟩
  rw [c1] at hq
  rcases List.mem_cons.1 hq with rfl | hq
  · refine wpOp_step hi (fun K hK => h1 K (fun S' a' w' hs h3 h4 => hK a' w' ⟨fun hn => hs _ (h3 hn), ?_⟩))
    rw [c2]
    exact more hs _ _ _ _ h4
  · obtain rfl := List.mem_singleton.1 hq
    refine wpOp_step hj (fun K hK => h2 K (fun S' a' w' hs h3 h4 => hK a' w' ⟨fun hn => hs _ (h3 hn), ?_⟩))
    rw [c3]
    exact more hs _ _ _ _ h4
end
/-- A row that has been made since a world of n blocks. -/
structure Fr {α : Type} (d : Kd α) (e : Nat) (n : Nat) (w : World) (v : Value) (xs : List α) : Prop where
  r : d.R e w 0 (fun _ => True) v xs
  b : ∀ k, v.ownBlock = some k → n ≤ k
section
variable {α : Type} {d : Kd α} {e n : Nat} {w w1 : World} {v u : Value} {xs : List α}
theorem Fr.mk' (h : d.R e w n (fun _ => True) v xs) : Fr d e n w v xs := ⟨Kd.R_lower h (Nat.zero_le _), Kd.R_base h⟩
theorem Fr.grown (hE : d.E = []) (h : Fr d e n w v xs) {row : Option Nat} (hg : w.grownBy w1 row) (hne : ∀ k, v.ownBlock = some k → row ≠ some k) : Fr d e n w1 v xs :=
  ⟨row_same hE h.r (fun k hk => hg.block k (Kd.R_lt h.r k hk) (fun he => hne k hk he.symm)), h.b⟩
theorem Fr.lit {v1 : Value} {zs : List α} (hr : d.R e w1 0 (fun _ => True) v1 zs) (hn : ∃ b, v1.ownBlock = some b ∧ w.heap.size ≤ b) (hs : n ≤ w.heap.size) : Fr d e n w1 v1 zs :=
  ⟨hr, fun k hk => by
    obtain ⟨b, hb, hl⟩ := hn
    rw [hb] at hk
    injection hk with hk
    omega⟩
theorem Fr.appended (h : Fr d e n w v xs) {v1 : Value} {zs : List α} (hr : d.R e w1 0 (fun _ => True) v1 zs) (hn : v1.ownBlock = v.ownBlock ∨ ∃ b, v1.ownBlock = some b ∧ w.heap.size ≤ b) (hs : n ≤ w.heap.size) : Fr d e n w1 v1 zs :=
  ⟨hr, fun k hk => by
    rcases hn with hn | ⟨b, hb, hl⟩
    · exact h.b k (hn ▸ hk)
    · rw [hb] at hk
      injection hk with hk
      omega⟩
theorem Fr.below {W0 : World} (h : Fr d e W0.heap.size w v xs) (s : Below W0.heap.size W0 w) (hg : w.grownBy w1 v.ownBlock) : Below W0.heap.size W0 w1 := Below.grown s hg s.size (fun k hk => h.b k hk)
theorem below_none {W0 : World} (s : Below W0.heap.size W0 w) (hg : w.grownBy w1 none) : Below W0.heap.size W0 w1 := Below.grown s hg s.size (fun k hk => by cases hk)
/-- A row, and another one that has been made since: apart. -/
theorem Fr.ne_new {β : Type} {c : Kd β} {e2 n2 : Nat} {v1 : Value} {ys : List β} (h : Fr c e2 n2 w u ys) (hn : ∃ b, v1.ownBlock = some b ∧ w.heap.size ≤ b) : ∀ k, u.ownBlock = some k → v1.ownBlock ≠ some k := fun k hk he => by
  obtain ⟨b, hb, hl⟩ := hn
  rw [hb] at he
  injection he with he
  have := Kd.R_lt h.r k hk
  omega
theorem Fr.ne_app {β : Type} {c : Kd β} {e2 n2 : Nat} {v1 : Value} {ys : List β} (h : Fr c e2 n2 w u ys) (hne : ∀ k, u.ownBlock = some k → v.ownBlock ≠ some k) (hn : v1.ownBlock = v.ownBlock ∨ ∃ b, v1.ownBlock = some b ∧ w.heap.size ≤ b) : ∀ k, u.ownBlock = some k → v1.ownBlock ≠ some k := fun k hk he => by
  rcases hn with hn | hn
  · exact hne k hk (hn ▸ he)
  · exact h.ne_new hn k hk he
theorem ne_symm {u v : Value} (h : ∀ k, u.ownBlock = some k → v.ownBlock ≠ some k) : ∀ k, v.ownBlock = some k → u.ownBlock ≠ some k := fun k hk he => h k he hk
end
end Go.Proofs.Ytoninmgglcepmaa.Dk
