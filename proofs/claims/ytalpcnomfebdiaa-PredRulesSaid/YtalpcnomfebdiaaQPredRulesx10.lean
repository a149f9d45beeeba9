-- Written by a program of this session (wip/myprint.py): the machine's side of a law
import Derived.Test.YtalpcnomfebdiaaQPredRulesx0
import Derived.Test.YtalpcnomfebdiaaQPredRulesx9
namespace Go.Proofs.Ytalpcnomfebdiaa.QPredRules
open Go.RowKit Go.Proofs.YtalpcnomfebdiaaW.PrintWords Go.Proofs.YtalpcnomfebdiaaW.PrintLast Go.Proofs.YtalpcnomfebdiaaW.PrintMore
attribute [local go_sem] max2_int min2_int max_two min_two max_three min_three max_four min_four   -- for this text's walks alone
set_option linter.unusedVariables false
set_option linter.unusedSimpArgs false

/-! ### pred_Eval: function 15 -/
/-! pred.Eval, whose tests of kids are closures that hold the row: by hand -/
/-- Is there one among some predicates of which a test tells yes? -/
def pred_any (g : S25 → Option Bool) : List S25 → Option Bool
 | [] => some false
 | x :: r => (g x).bind fun t => if t = true then some true else pred_any g r
def pred_Eval.f : Nat → Int → ByteArray → Int → Int → ByteArray → List ByteArray → List S25 → Int → Int → List S52 → Option Bool
 | 0, _, _, _, _, _, _, _, _, _, _ => none
 | k + 1, a0, a1, a2, a3, a4, l5, l6, b0, b1, l2 =>
  if a0 = 1 then (if l6.length ≤ 9223372036854775807 then (pred_any (fun x => (pred_Eval.f k x.f0 x.f1 x.f2 x.f3 x.f4 x.f5 x.f6 b0 b1 l2).map (!·)) l6).map (!·) else none)
  else if a0 = 2 then (if l6.length ≤ 9223372036854775807 then pred_any (fun x => pred_Eval.f k x.f0 x.f1 x.f2 x.f3 x.f4 x.f5 x.f6 b0 b1 l2) l6 else none)
  else if a0 = 3 then (if 0 < l6.length then (pred_Eval.f k (rd_T25 l6 0).f0 (rd_T25 l6 0).f1 (rd_T25 l6 0).f2 (rd_T25 l6 0).f3 (rd_T25 l6 0).f4 (rd_T25 l6 0).f5 (rd_T25 l6 0).f6 b0 b1 l2).map (!·) else some false)
  else if a0 = 10 then (if a2 ≤ b0 then some (decide (b0 ≤ a3)) else some false)
  else (row_Cell.f k b0 b1 l2 a1).bind fun c => pred_Cell.f k a0 a1 a2 a3 a4 l5 l6 c.1 c.2.1 c.2.2.1 c.2.2.2
theorem pred_any_mono {g g' : S25 → Option Bool} (hg : ∀ x, LeO (g x) (g' x)) : ∀ l, LeO (pred_any g l) (pred_any g' l)
 | [] => LeO.refl _
 | x :: r => by
  rw [pred_any, pred_any]
  exact LeO.bind (hg x) (fun _ => LeO.ite (LeO.refl _) (pred_any_mono hg r))
theorem pred_map_mono {a b : Option Bool} (h : LeO a b) : LeO (a.map (!·)) (b.map (!·)) := by
 intro r hr
 cases a with
 | none => cases hr
 | some x => rw [h x rfl]; exact hr
theorem pred_Eval.mono : ∀ a0 a1 a2 a3 a4 a5 a6 a7 a8 a9 k, LeO (pred_Eval.f k a0 a1 a2 a3 a4 a5 a6 a7 a8 a9) (pred_Eval.f (k + 1) a0 a1 a2 a3 a4 a5 a6 a7 a8 a9) := by
 intro a0 a1 a2 a3 a4 a5 a6 a7 a8 a9 k
 induction k generalizing a0 a1 a2 a3 a4 a5 a6 a7 a8 a9 with
 | zero => intro r h; simp [pred_Eval.f] at h
 | succ k ih =>
  rw [pred_Eval.f, pred_Eval.f.eq_def (k + 1 + 1)]
  refine LeO.ite (LeO.ite (pred_map_mono (pred_any_mono (fun x => pred_map_mono (ih _ _ _ _ _ _ _ _ _ _)) _)) (LeO.refl _)) (LeO.ite (LeO.ite (pred_any_mono (fun x => ih _ _ _ _ _ _ _ _ _ _) _) (LeO.refl _)) (LeO.ite (LeO.ite (pred_map_mono (ih _ _ _ _ _ _ _ _ _ _)) (LeO.refl _)) (LeO.ite (LeO.refl _) ?_)))
  exact LeO.bind (row_Cell.mono _ _ _ _ _) (fun _ => pred_Cell.mono _ _ _ _ _ _ _ _ _ _ _ _)
theorem pred_any_drop (g : S25 → Option Bool) (K : List S25) (x : Nat) (h : x < K.length) : pred_any g (K.drop x) = (g (rd_T25 K (x : Int))).bind fun t => if t = true then some true else pred_any g (K.drop (x + 1)) := by
 have e : rd_T25 K (x : Int) = K[x] := by simp [rd_T25, List.getD_eq_getElem?_getD, List.getElem?_eq_getElem h]
 rw [List.drop_eq_getElem_cons h, pred_any, e]
/-- What pred.Eval is told to do with so many rounds. -/
def pred_EvalAt (k : Nat) : Prop := ∀ (a0 : Int) (a1 : ByteArray) (a2 a3 : Int) (a4 : ByteArray) (A5 : Option Addr) (c5 : Nat) (l5 : List ByteArray) (A6 : Option Addr) (c6 : Nat) (l6 : List S25) (b0 b1 : Int) (AC : Option Addr) (cC : Nat) (l2 : List S52) (r : Bool) (w : World)
  (hr5 : Kd.C Kd.string w A5 l5.length l5) (hc5 : l5.length ≤ c5) (hr6 : Kd.C k25 w A6 l6.length l6) (hc6 : l6.length ≤ c6) (hr2 : Kd.C k52 w AC l2.length l2) (hc2 : l2.length ≤ cC) (h : pred_Eval.f k a0 a1 a2 a3 a4 l5 l6 b0 b1 l2 = some r),
  Calls Try.prog 15 #[.agg #[.int .i64 a0, .string a1, .int .i64 a2, .int .i64 a3, .string a4, .slice A5 l5.length c5, .slice A6 l6.length c6], .agg #[.int .i64 b0, .int .i64 b1, .slice AC l2.length cC]] w fun e w' => e = .returned (.bool r) ∧ Below w.heap.size w w'
set_option maxHeartbeats 8000000 in
set_option maxRecDepth 100000 in
theorem pred_Eval_1.calls (k : Nat) (hE : pred_EvalAt k) (x : S25) (A5 : Option Addr) (c5 : Nat) (A6 : Option Addr) (c6 : Nat) (b0 b1 : Int) (AC : Option Addr) (cC : Nat) (l2 : List S52) (g : Nat) (r : Bool) (w : World) (hr5 : Kd.C Kd.string w A5 x.f5.length x.f5) (hc5 : x.f5.length ≤ c5) (hr6 : Kd.C k25 w A6 x.f6.length x.f6) (hc6 : x.f6.length ≤ c6) (hr2 : Kd.C k52 w AC l2.length l2) (hc2 : l2.length ≤ cC) (hg : w.heap[g]? = some (.cells #[.int .i64 b0, .int .i64 b1, .slice AC l2.length cC] 36 (0, 0))) (h : pred_Eval.f k x.f0 x.f1 x.f2 x.f3 x.f4 x.f5 x.f6 b0 b1 l2 = some r) :
  Calls Try.prog 31 #[.agg #[.int .i64 x.f0, .string x.f1, .int .i64 x.f2, .int .i64 x.f3, .string x.f4, .slice A5 x.f5.length c5, .slice A6 x.f6.length c6], .pointer (some ⟨g, 0, none⟩)] w fun e w' => e = .returned (.bool (!r)) ∧ Below w.heap.size w w' := by
 have hu1 := Try.underlying25
 have hu2 := Try.underlying36
 have HE := zM hE
 have HR5 := zM hr5
 have HC5 := zM hc5
 have HR6 := zM hr6
 have HC6 := zM hc6
 have HR2 := zM hr2
 have HC2 := zM hc2
 have BG := zM hg
 have H := zM h
 have HB := zM (Below.refl w.heap.size w)
 clear hE hr5 hc5 hr6 hc6 hr2 hc2 hg h
 go_enter Try.func31, Try.ntmps31
 go_wp2_with (first
  | ((with_reducible refine gate_dst (N := 2) rfl ?_); refine box_event ?hg (N := 2) ?hd (cs := #[.int .i64 x.f0, .string x.f1, .int .i64 x.f2, .int .i64 x.f3, .string x.f4, .slice A5 x.f5.length c5, .slice A6 x.f6.length c6]) (t := 25) ?hr ?_; (case hd => rfl); (case hg => rfl); (case hr => first | (go_simp; done) | (go_simp; rfl)); intro gp hgq w1 hbox hb; have HB1 := zM hb; have BP := zM hbox; have hne := Nat.ne_of_lt (blk_lt BG.out); rw [← hgq] at hne; have hne2 := hne.symm; have BG1 := zM (blk_below BG.out hb); clear HB; have HB := HB1; clear hb hbox hgq; have hzgp0_ : w1.cell? ⟨gp, 0, none⟩ = some (.int .i64 x.f0) := (blk_cell BP.out 0).trans rfl; have hzgp1_ : w1.cell? ⟨gp, 1, none⟩ = some (.string x.f1) := (blk_cell BP.out 1).trans rfl; have hzgp2_ : w1.cell? ⟨gp, 2, none⟩ = some (.int .i64 x.f2) := (blk_cell BP.out 2).trans rfl; have hzgp3_ : w1.cell? ⟨gp, 3, none⟩ = some (.int .i64 x.f3) := (blk_cell BP.out 3).trans rfl; have hzgp4_ : w1.cell? ⟨gp, 4, none⟩ = some (.string x.f4) := (blk_cell BP.out 4).trans rfl; have hzgp5_ : w1.cell? ⟨gp, 5, none⟩ = some (.slice A5 x.f5.length c5) := (blk_cell BP.out 5).trans rfl; have hzgp6_ : w1.cell? ⟨gp, 6, none⟩ = some (.slice A6 x.f6.length c6) := (blk_cell BP.out 6).trans rfl; have hfgp0_ := blk_frozen BP.out 0; have hfgp1_ := blk_frozen BP.out 1; have hfgp2_ := blk_frozen BP.out 2; have hfgp3_ := blk_frozen BP.out 3; have hfgp4_ := blk_frozen BP.out 4; have hfgp5_ := blk_frozen BP.out 5; have hfgp6_ := blk_frozen BP.out 6; have hzg0_ : w1.cell? ⟨g, 0, none⟩ = some (.int .i64 b0) := (blk_cell BG1.out 0).trans rfl; have hzg1_ : w1.cell? ⟨g, 1, none⟩ = some (.int .i64 b1) := (blk_cell BG1.out 1).trans rfl; have hzg2_ : w1.cell? ⟨g, 2, none⟩ = some (.slice AC l2.length cC) := (blk_cell BG1.out 2).trans rfl; have hfg0_ := blk_frozen BG1.out 0; have hfg1_ := blk_frozen BG1.out 1; have hfg2_ := blk_frozen BG1.out 2)
  | (go_at_call 15; refine (HE.out _ _ _ _ _ A5 c5 _ A6 c6 _ b0 b1 AC cC l2 r _ (Kd.C_below HR5.out HB.out) HC5.out (Kd.C_below HR6.out HB.out) HC6.out (Kd.C_below HR2.out HB.out) HC2.out H.out).mono ?_; rintro e w3 ⟨rfl, hb3⟩; have HB3 := zM (below_step HB.out hb3); clear HB; have HB := HB3; clear hb3))
 go_ret
 exact ⟨rfl, mB HB.out⟩
set_option maxHeartbeats 8000000 in
set_option maxRecDepth 100000 in
theorem slices_IndexFunc_Eval1 (k : Nat) (hE : pred_EvalAt k) (A : Option Addr) (c : Nat) (l : List S25) (b0 b1 : Int) (AC : Option Addr) (cC : Nat) (l2 : List S52) (g : Nat) (b : Bool) (w : World) (hr : Kd.C k25 w A l.length l) (hl : l.length ≤ 9223372036854775807) (hr2 : Kd.C k52 w AC l2.length l2) (hc2 : l2.length ≤ cC) (hg : w.heap[g]? = some (.cells #[.int .i64 b0, .int .i64 b1, .slice AC l2.length cC] 36 (0, 0))) (h : pred_any (fun x => (pred_Eval.f k x.f0 x.f1 x.f2 x.f3 x.f4 x.f5 x.f6 b0 b1 l2).map (!·)) l = some b) :
  Calls Try.prog 41 #[.slice A l.length c, .func (.func 31) #[] #[.pointer (some ⟨g, 0, none⟩)]] w fun e w' => ∃ r : Int, e = .returned (.int .i64 r) ∧ decide (0 ≤ r) = b ∧ Below w.heap.size w w' := by
 have HE := zM hE
 have HR := zM hr
 have HL := zM hl
 have HR2 := zM hr2
 have HC2 := zM hc2
 have BG := zM hg
 have H' := Aside0.mk h
 have hu1 := Try.underlying25
 clear hE hr hl hr2 hc2 hg h
 go_enter Try.func41, Try.ntmps41
 go_wp2
 go_loopg [8] l.length (fun kq v8 w' => ∃ x : Nat, v8 = .int .i64 (x : Int) ∧ Aside0 (x ≤ l.length ∧ l.length - x ≤ kq) ∧ Aside0 (pred_any (fun x => (pred_Eval.f k x.f0 x.f1 x.f2 x.f3 x.f4 x.f5 x.f6 b0 b1 l2).map (!·)) (l.drop x) = some b) ∧ Aside0 (Below w.heap.size w w'))
 case atStart => exact ⟨0, rfl, ⟨by omega, by omega⟩, ⟨by rw [List.drop_zero]; exact H'.out⟩, ⟨Below.refl _ _⟩⟩
 case round =>
  clear H'
  obtain ⟨x, rfl, HX, HA, HB⟩ := hrel
  by_cases h : x < l.length
  ·have hlt : decide ((x : Int) < (l.length : Int)) = true := decide_eq_true (by omega)
   have p1 : 0 ≤ (x : Int) := by omega
   have q1 : (x : Int) < (l.length : Int) := by omega
   obtain ⟨ad, A5, c5, A6, c6, e1, hx0, hx1, hx2, hx3, hx4, hx5, hx6, lc5_, l5_, lc6_, l6_⟩ := at_T25 (Kd.C_below HR.out HB.out) (x : Int) p1 q1
   cases e1
   rw [Int.toNat_natCast] at hx0 hx1 hx2 hx3 hx4 hx5 hx6
   have H := HA.out
   rw [pred_any_drop _ l x h] at H
   clear HA
   obtain ⟨t0, ht0, H⟩ := Option.bind_eq_some_iff.mp H
   obtain ⟨t, ht, rfl⟩ := Option.map_eq_some_iff.mp ht0
   clear ht0
   have HT := zM ht
   have hL := HL.out
   clear ht
   cases t with
   | false =>
    rw [if_pos (by rfl)] at H
    obtain rfl := Option.some.inj H
    clear H hL
    go_wp2_with (go_at_call 31; refine (pred_Eval_1.calls k HE.out (rd_T25 l (x : Int)) A5 c5 A6 c6 b0 b1 AC cC l2 g false _ (by (with_reducible repeat (first | apply Kd.C_drewN | apply Kd.C_alloc)); exact l5_) lc5_ (by (with_reducible repeat (first | apply Kd.C_drewN | apply Kd.C_alloc)); exact l6_) lc6_ (by (with_reducible repeat (first | apply Kd.C_drewN | apply Kd.C_alloc)); exact Kd.C_below HR2.out HB.out) HC2.out (blk_below BG.out HB.out) HT.out).mono ?_; rintro e w3 ⟨rfl, hb3⟩; have HB3 := zM (below_step HB.out hb3); clear HB; have HB := HB3; clear hb3)
    go_ret
    exact ⟨_, rfl, decide_eq_true p1, mB HB.out⟩
   | true =>
    rw [if_neg (by decide)] at H
    have HN := zM H
    have hw : Aside0 (wrap64 ((x : Int) + 1) = ((x + 1 : Nat) : Int)) := ⟨by unfold wrap64; omega⟩
    clear H hL
    go_wp2_with (go_at_call 31; refine (pred_Eval_1.calls k HE.out (rd_T25 l (x : Int)) A5 c5 A6 c6 b0 b1 AC cC l2 g true _ (by (with_reducible repeat (first | apply Kd.C_drewN | apply Kd.C_alloc)); exact l5_) lc5_ (by (with_reducible repeat (first | apply Kd.C_drewN | apply Kd.C_alloc)); exact l6_) lc6_ (by (with_reducible repeat (first | apply Kd.C_drewN | apply Kd.C_alloc)); exact Kd.C_below HR2.out HB.out) HC2.out (blk_below BG.out HB.out) HT.out).mono ?_; rintro e w3 ⟨rfl, hb3⟩; have HB3 := zM (below_step HB.out hb3); clear HB; have HB := HB3; clear hb3)
    go_roundg (l.length - (x + 1))
    case measure => have := HX.out; omega
    case rel => exact ⟨x + 1, by rw [hw.out], ⟨by omega, by omega⟩, HN, ⟨mB HB.out⟩⟩
  have hlt : decide ((x : Int) < (l.length : Int)) = false := decide_eq_false (by omega)
  have H := HA.out
  rw [List.drop_eq_nil_of_le (by omega)] at H
  obtain rfl := Option.some.inj H
  clear H HA
  go_wp2
  go_ret
  exact ⟨_, rfl, by decide, mB HB.out⟩
set_option maxHeartbeats 8000000 in
set_option maxRecDepth 100000 in
theorem slices_ContainsFunc_Eval1 (k : Nat) (hE : pred_EvalAt k) (A : Option Addr) (c : Nat) (l : List S25) (b0 b1 : Int) (AC : Option Addr) (cC : Nat) (l2 : List S52) (g : Nat) (b : Bool) (w : World) (hr : Kd.C k25 w A l.length l) (hl : l.length ≤ 9223372036854775807) (hr2 : Kd.C k52 w AC l2.length l2) (hc2 : l2.length ≤ cC) (hg : w.heap[g]? = some (.cells #[.int .i64 b0, .int .i64 b1, .slice AC l2.length cC] 36 (0, 0))) (h : pred_any (fun x => (pred_Eval.f k x.f0 x.f1 x.f2 x.f3 x.f4 x.f5 x.f6 b0 b1 l2).map (!·)) l = some b) :
  Calls Try.prog 30 #[.slice A l.length c, .func (.func 31) #[] #[.pointer (some ⟨g, 0, none⟩)]] w fun e w' => e = .returned (.bool b) ∧ Below w.heap.size w w' := by
 have HE := zM hE
 have HR := zM hr
 have HL := zM hl
 have HR2 := zM hr2
 have HC2 := zM hc2
 have BG := zM hg
 have HH := zM h
 clear hE hr hl hr2 hc2 hg h
 go_enter Try.func30, Try.ntmps30
 go_wp2_with (go_at_call 41; refine (slices_IndexFunc_Eval1 k HE.out _ _ l b0 b1 AC cC l2 g b _ HR.out HL.out HR2.out HC2.out BG.out HH.out).mono ?_; rintro e w1 ⟨r, rfl, hb, hb1⟩; have HB := zM hb1; clear hb1)
 go_ret
 exact ⟨rfl, mB HB.out⟩
set_option maxHeartbeats 8000000 in
set_option maxRecDepth 100000 in
theorem pred_Eval_2.calls (k : Nat) (hE : pred_EvalAt k) (x : S25) (A5 : Option Addr) (c5 : Nat) (A6 : Option Addr) (c6 : Nat) (b0 b1 : Int) (AC : Option Addr) (cC : Nat) (l2 : List S52) (g : Nat) (r : Bool) (w : World) (hr5 : Kd.C Kd.string w A5 x.f5.length x.f5) (hc5 : x.f5.length ≤ c5) (hr6 : Kd.C k25 w A6 x.f6.length x.f6) (hc6 : x.f6.length ≤ c6) (hr2 : Kd.C k52 w AC l2.length l2) (hc2 : l2.length ≤ cC) (hg : w.heap[g]? = some (.cells #[.int .i64 b0, .int .i64 b1, .slice AC l2.length cC] 36 (0, 0))) (h : pred_Eval.f k x.f0 x.f1 x.f2 x.f3 x.f4 x.f5 x.f6 b0 b1 l2 = some r) :
  Calls Try.prog 32 #[.agg #[.int .i64 x.f0, .string x.f1, .int .i64 x.f2, .int .i64 x.f3, .string x.f4, .slice A5 x.f5.length c5, .slice A6 x.f6.length c6], .pointer (some ⟨g, 0, none⟩)] w fun e w' => e = .returned (.bool r) ∧ Below w.heap.size w w' := by
 have hu1 := Try.underlying25
 have hu2 := Try.underlying36
 have HE := zM hE
 have HR5 := zM hr5
 have HC5 := zM hc5
 have HR6 := zM hr6
 have HC6 := zM hc6
 have HR2 := zM hr2
 have HC2 := zM hc2
 have BG := zM hg
 have H := zM h
 have HB := zM (Below.refl w.heap.size w)
 clear hE hr5 hc5 hr6 hc6 hr2 hc2 hg h
 go_enter Try.func32, Try.ntmps32
 go_wp2_with (first
  | ((with_reducible refine gate_dst (N := 2) rfl ?_); refine box_event ?hg (N := 2) ?hd (cs := #[.int .i64 x.f0, .string x.f1, .int .i64 x.f2, .int .i64 x.f3, .string x.f4, .slice A5 x.f5.length c5, .slice A6 x.f6.length c6]) (t := 25) ?hr ?_; (case hd => rfl); (case hg => rfl); (case hr => first | (go_simp; done) | (go_simp; rfl)); intro gp hgq w1 hbox hb; have HB1 := zM hb; have BP := zM hbox; have hne := Nat.ne_of_lt (blk_lt BG.out); rw [← hgq] at hne; have hne2 := hne.symm; have BG1 := zM (blk_below BG.out hb); clear HB; have HB := HB1; clear hb hbox hgq; have hzgp0_ : w1.cell? ⟨gp, 0, none⟩ = some (.int .i64 x.f0) := (blk_cell BP.out 0).trans rfl; have hzgp1_ : w1.cell? ⟨gp, 1, none⟩ = some (.string x.f1) := (blk_cell BP.out 1).trans rfl; have hzgp2_ : w1.cell? ⟨gp, 2, none⟩ = some (.int .i64 x.f2) := (blk_cell BP.out 2).trans rfl; have hzgp3_ : w1.cell? ⟨gp, 3, none⟩ = some (.int .i64 x.f3) := (blk_cell BP.out 3).trans rfl; have hzgp4_ : w1.cell? ⟨gp, 4, none⟩ = some (.string x.f4) := (blk_cell BP.out 4).trans rfl; have hzgp5_ : w1.cell? ⟨gp, 5, none⟩ = some (.slice A5 x.f5.length c5) := (blk_cell BP.out 5).trans rfl; have hzgp6_ : w1.cell? ⟨gp, 6, none⟩ = some (.slice A6 x.f6.length c6) := (blk_cell BP.out 6).trans rfl; have hfgp0_ := blk_frozen BP.out 0; have hfgp1_ := blk_frozen BP.out 1; have hfgp2_ := blk_frozen BP.out 2; have hfgp3_ := blk_frozen BP.out 3; have hfgp4_ := blk_frozen BP.out 4; have hfgp5_ := blk_frozen BP.out 5; have hfgp6_ := blk_frozen BP.out 6; have hzg0_ : w1.cell? ⟨g, 0, none⟩ = some (.int .i64 b0) := (blk_cell BG1.out 0).trans rfl; have hzg1_ : w1.cell? ⟨g, 1, none⟩ = some (.int .i64 b1) := (blk_cell BG1.out 1).trans rfl; have hzg2_ : w1.cell? ⟨g, 2, none⟩ = some (.slice AC l2.length cC) := (blk_cell BG1.out 2).trans rfl; have hfg0_ := blk_frozen BG1.out 0; have hfg1_ := blk_frozen BG1.out 1; have hfg2_ := blk_frozen BG1.out 2)
  | (go_at_call 15; refine (HE.out _ _ _ _ _ A5 c5 _ A6 c6 _ b0 b1 AC cC l2 r _ (Kd.C_below HR5.out HB.out) HC5.out (Kd.C_below HR6.out HB.out) HC6.out (Kd.C_below HR2.out HB.out) HC2.out H.out).mono ?_; rintro e w3 ⟨rfl, hb3⟩; have HB3 := zM (below_step HB.out hb3); clear HB; have HB := HB3; clear hb3))
 go_ret
 exact ⟨rfl, mB HB.out⟩
set_option maxHeartbeats 8000000 in
set_option maxRecDepth 100000 in
theorem slices_IndexFunc_Eval2 (k : Nat) (hE : pred_EvalAt k) (A : Option Addr) (c : Nat) (l : List S25) (b0 b1 : Int) (AC : Option Addr) (cC : Nat) (l2 : List S52) (g : Nat) (b : Bool) (w : World) (hr : Kd.C k25 w A l.length l) (hl : l.length ≤ 9223372036854775807) (hr2 : Kd.C k52 w AC l2.length l2) (hc2 : l2.length ≤ cC) (hg : w.heap[g]? = some (.cells #[.int .i64 b0, .int .i64 b1, .slice AC l2.length cC] 36 (0, 0))) (h : pred_any (fun x => pred_Eval.f k x.f0 x.f1 x.f2 x.f3 x.f4 x.f5 x.f6 b0 b1 l2) l = some b) :
  Calls Try.prog 41 #[.slice A l.length c, .func (.func 32) #[] #[.pointer (some ⟨g, 0, none⟩)]] w fun e w' => ∃ r : Int, e = .returned (.int .i64 r) ∧ decide (0 ≤ r) = b ∧ Below w.heap.size w w' := by
 have HE := zM hE
 have HR := zM hr
 have HL := zM hl
 have HR2 := zM hr2
 have HC2 := zM hc2
 have BG := zM hg
 have H' := Aside0.mk h
 have hu1 := Try.underlying25
 clear hE hr hl hr2 hc2 hg h
 go_enter Try.func41, Try.ntmps41
 go_wp2
 go_loopg [8] l.length (fun kq v8 w' => ∃ x : Nat, v8 = .int .i64 (x : Int) ∧ Aside0 (x ≤ l.length ∧ l.length - x ≤ kq) ∧ Aside0 (pred_any (fun x => pred_Eval.f k x.f0 x.f1 x.f2 x.f3 x.f4 x.f5 x.f6 b0 b1 l2) (l.drop x) = some b) ∧ Aside0 (Below w.heap.size w w'))
 case atStart => exact ⟨0, rfl, ⟨by omega, by omega⟩, ⟨by rw [List.drop_zero]; exact H'.out⟩, ⟨Below.refl _ _⟩⟩
 case round =>
  clear H'
  obtain ⟨x, rfl, HX, HA, HB⟩ := hrel
  by_cases h : x < l.length
  ·have hlt : decide ((x : Int) < (l.length : Int)) = true := decide_eq_true (by omega)
   have p1 : 0 ≤ (x : Int) := by omega
   have q1 : (x : Int) < (l.length : Int) := by omega
   obtain ⟨ad, A5, c5, A6, c6, e1, hx0, hx1, hx2, hx3, hx4, hx5, hx6, lc5_, l5_, lc6_, l6_⟩ := at_T25 (Kd.C_below HR.out HB.out) (x : Int) p1 q1
   cases e1
   rw [Int.toNat_natCast] at hx0 hx1 hx2 hx3 hx4 hx5 hx6
   have H := HA.out
   rw [pred_any_drop _ l x h] at H
   clear HA
   obtain ⟨t, ht, H⟩ := Option.bind_eq_some_iff.mp H
   have HT := zM ht
   have hL := HL.out
   clear ht
   cases t with
   | true =>
    rw [if_pos (by rfl)] at H
    obtain rfl := Option.some.inj H
    clear H hL
    go_wp2_with (go_at_call 32; refine (pred_Eval_2.calls k HE.out (rd_T25 l (x : Int)) A5 c5 A6 c6 b0 b1 AC cC l2 g true _ (by (with_reducible repeat (first | apply Kd.C_drewN | apply Kd.C_alloc)); exact l5_) lc5_ (by (with_reducible repeat (first | apply Kd.C_drewN | apply Kd.C_alloc)); exact l6_) lc6_ (by (with_reducible repeat (first | apply Kd.C_drewN | apply Kd.C_alloc)); exact Kd.C_below HR2.out HB.out) HC2.out (blk_below BG.out HB.out) HT.out).mono ?_; rintro e w3 ⟨rfl, hb3⟩; have HB3 := zM (below_step HB.out hb3); clear HB; have HB := HB3; clear hb3)
    go_ret
    exact ⟨_, rfl, decide_eq_true p1, mB HB.out⟩
   | false =>
    rw [if_neg (by decide)] at H
    have HN := zM H
    have hw : Aside0 (wrap64 ((x : Int) + 1) = ((x + 1 : Nat) : Int)) := ⟨by unfold wrap64; omega⟩
    clear H hL
    go_wp2_with (go_at_call 32; refine (pred_Eval_2.calls k HE.out (rd_T25 l (x : Int)) A5 c5 A6 c6 b0 b1 AC cC l2 g false _ (by (with_reducible repeat (first | apply Kd.C_drewN | apply Kd.C_alloc)); exact l5_) lc5_ (by (with_reducible repeat (first | apply Kd.C_drewN | apply Kd.C_alloc)); exact l6_) lc6_ (by (with_reducible repeat (first | apply Kd.C_drewN | apply Kd.C_alloc)); exact Kd.C_below HR2.out HB.out) HC2.out (blk_below BG.out HB.out) HT.out).mono ?_; rintro e w3 ⟨rfl, hb3⟩; have HB3 := zM (below_step HB.out hb3); clear HB; have HB := HB3; clear hb3)
    go_roundg (l.length - (x + 1))
    case measure => have := HX.out; omega
    case rel => exact ⟨x + 1, by rw [hw.out], ⟨by omega, by omega⟩, HN, ⟨mB HB.out⟩⟩
  have hlt : decide ((x : Int) < (l.length : Int)) = false := decide_eq_false (by omega)
  have H := HA.out
  rw [List.drop_eq_nil_of_le (by omega)] at H
  obtain rfl := Option.some.inj H
  clear H HA
  go_wp2
  go_ret
  exact ⟨_, rfl, by decide, mB HB.out⟩
set_option maxHeartbeats 8000000 in
set_option maxRecDepth 100000 in
theorem slices_ContainsFunc_Eval2 (k : Nat) (hE : pred_EvalAt k) (A : Option Addr) (c : Nat) (l : List S25) (b0 b1 : Int) (AC : Option Addr) (cC : Nat) (l2 : List S52) (g : Nat) (b : Bool) (w : World) (hr : Kd.C k25 w A l.length l) (hl : l.length ≤ 9223372036854775807) (hr2 : Kd.C k52 w AC l2.length l2) (hc2 : l2.length ≤ cC) (hg : w.heap[g]? = some (.cells #[.int .i64 b0, .int .i64 b1, .slice AC l2.length cC] 36 (0, 0))) (h : pred_any (fun x => pred_Eval.f k x.f0 x.f1 x.f2 x.f3 x.f4 x.f5 x.f6 b0 b1 l2) l = some b) :
  Calls Try.prog 30 #[.slice A l.length c, .func (.func 32) #[] #[.pointer (some ⟨g, 0, none⟩)]] w fun e w' => e = .returned (.bool b) ∧ Below w.heap.size w w' := by
 have HE := zM hE
 have HR := zM hr
 have HL := zM hl
 have HR2 := zM hr2
 have HC2 := zM hc2
 have BG := zM hg
 have HH := zM h
 clear hE hr hl hr2 hc2 hg h
 go_enter Try.func30, Try.ntmps30
 go_wp2_with (go_at_call 41; refine (slices_IndexFunc_Eval2 k HE.out _ _ l b0 b1 AC cC l2 g b _ HR.out HL.out HR2.out HC2.out BG.out HH.out).mono ?_; rintro e w1 ⟨r, rfl, hb, hb1⟩; have HB := zM hb1; clear hb1)
 go_ret
 exact ⟨rfl, mB HB.out⟩
set_option maxHeartbeats 8000000 in
set_option maxRecDepth 100000 in
theorem pred_Eval_all (k : Nat) (a0 : Int) (a1 : ByteArray) (a2 a3 : Int) (a4 : ByteArray) (A5 : Option Addr) (c5 : Nat) (l5 : List ByteArray) (A6 : Option Addr) (c6 : Nat) (l6 : List S25) (b0 b1 : Int) (AC : Option Addr) (cC : Nat) (l2 : List S52) (w : World)
  (hr5 : Kd.C Kd.string w A5 l5.length l5) (hc5 : l5.length ≤ c5) (hr6 : Kd.C k25 w A6 l6.length l6) (hc6 : l6.length ≤ c6) (hr2 : Kd.C k52 w AC l2.length l2) (hc2 : l2.length ≤ cC) (h1 : a0 = 1) (hE : pred_EvalAt k) (hl : l6.length ≤ 9223372036854775807) (t : Bool) (ht : pred_any (fun x => (pred_Eval.f k x.f0 x.f1 x.f2 x.f3 x.f4 x.f5 x.f6 b0 b1 l2).map (!·)) l6 = some t) :
  Calls Try.prog 15 #[.agg #[.int .i64 a0, .string a1, .int .i64 a2, .int .i64 a3, .string a4, .slice A5 l5.length c5, .slice A6 l6.length c6], .agg #[.int .i64 b0, .int .i64 b1, .slice AC l2.length cC]] w fun e w' => e = .returned (.bool (!t)) ∧ Below w.heap.size w w' := by
 have hu1 := Try.underlying25
 have hu2 := Try.underlying36
 have hmf : ∀ (fn : Fn) (first cap : Array Value) (w : World), (Instr.makeFunc fn first cap).run Try.prog w = .ok (.func fn first cap) w := fun _ _ _ _ => rfl
 have HR5 := zM hr5
 have HC5 := zM hc5
 have HR6 := zM hr6
 have HC6 := zM hc6
 have HR2 := zM hr2
 have HC2 := zM hc2
 have HB := zM (Below.refl w.heap.size w)
 clear hr5 hc5 hr6 hc6 hr2 hc2
 subst h1
 have HE := zM hE
 have HL := zM hl
 have HT := zM ht
 clear hE hl ht
 go_enter Try.func15, Try.ntmps15
 go_wp2_with (first
  | ((with_reducible refine gate_dst (N := 2) rfl ?_); refine box_event ?hg (N := 2) ?hd (cs := #[.int .i64 1, .string a1, .int .i64 a2, .int .i64 a3, .string a4, .slice A5 l5.length c5, .slice A6 l6.length c6]) (t := 25) ?hr ?_; (case hd => rfl); (case hg => rfl); (case hr => first | (go_simp; done) | (go_simp; rfl)); intro gp hgq w1 hbox hb; have HB1 := zM hb; have BP := zM hbox; clear HB; have HB := HB1; clear HB1 hb hbox hgq; have hygp0_ : w1.cell? ⟨gp, 0, none⟩ = some (.int .i64 1) := (blk_cell BP.out 0).trans rfl; have hygp1_ : w1.cell? ⟨gp, 1, none⟩ = some (.string a1) := (blk_cell BP.out 1).trans rfl; have hygp2_ : w1.cell? ⟨gp, 2, none⟩ = some (.int .i64 a2) := (blk_cell BP.out 2).trans rfl; have hygp3_ : w1.cell? ⟨gp, 3, none⟩ = some (.int .i64 a3) := (blk_cell BP.out 3).trans rfl; have hygp4_ : w1.cell? ⟨gp, 4, none⟩ = some (.string a4) := (blk_cell BP.out 4).trans rfl; have hygp5_ : w1.cell? ⟨gp, 5, none⟩ = some (.slice A5 l5.length c5) := (blk_cell BP.out 5).trans rfl; have hygp6_ : w1.cell? ⟨gp, 6, none⟩ = some (.slice A6 l6.length c6) := (blk_cell BP.out 6).trans rfl; have hggp0_ := blk_frozen BP.out 0; have hggp1_ := blk_frozen BP.out 1; have hggp2_ := blk_frozen BP.out 2; have hggp3_ := blk_frozen BP.out 3; have hggp4_ := blk_frozen BP.out 4; have hggp5_ := blk_frozen BP.out 5; have hggp6_ := blk_frozen BP.out 6)
  | ((with_reducible refine gate_dst (N := 3) rfl ?_); refine box_event ?hg (N := 3) ?hd (cs := #[.int .i64 b0, .int .i64 b1, .slice AC l2.length cC]) (t := 36) ?hr ?_; (case hd => rfl); (case hg => rfl); (case hr => first | (go_simp; done) | (go_simp; rfl)); intro gr hgq w2 hbox hb; have HB1 := zM (below_step HB.out hb); have BR := zM hbox; have BP1 := zM (blk_below BP.out hb); have hne := Nat.ne_of_lt (blk_lt BP.out); rw [← hgq] at hne; have hne2 := hne.symm; clear HB BP; have HB := HB1; have BP := BP1; clear HB1 BP1 hb hbox hgq; have hzgp0_ : w2.cell? ⟨gp, 0, none⟩ = some (.int .i64 1) := (blk_cell BP.out 0).trans rfl; have hzgp1_ : w2.cell? ⟨gp, 1, none⟩ = some (.string a1) := (blk_cell BP.out 1).trans rfl; have hzgp2_ : w2.cell? ⟨gp, 2, none⟩ = some (.int .i64 a2) := (blk_cell BP.out 2).trans rfl; have hzgp3_ : w2.cell? ⟨gp, 3, none⟩ = some (.int .i64 a3) := (blk_cell BP.out 3).trans rfl; have hzgp4_ : w2.cell? ⟨gp, 4, none⟩ = some (.string a4) := (blk_cell BP.out 4).trans rfl; have hzgp5_ : w2.cell? ⟨gp, 5, none⟩ = some (.slice A5 l5.length c5) := (blk_cell BP.out 5).trans rfl; have hzgp6_ : w2.cell? ⟨gp, 6, none⟩ = some (.slice A6 l6.length c6) := (blk_cell BP.out 6).trans rfl; have hfgp0_ := blk_frozen BP.out 0; have hfgp1_ := blk_frozen BP.out 1; have hfgp2_ := blk_frozen BP.out 2; have hfgp3_ := blk_frozen BP.out 3; have hfgp4_ := blk_frozen BP.out 4; have hfgp5_ := blk_frozen BP.out 5; have hfgp6_ := blk_frozen BP.out 6; have hzgr0_ : w2.cell? ⟨gr, 0, none⟩ = some (.int .i64 b0) := (blk_cell BR.out 0).trans rfl; have hzgr1_ : w2.cell? ⟨gr, 1, none⟩ = some (.int .i64 b1) := (blk_cell BR.out 1).trans rfl; have hzgr2_ : w2.cell? ⟨gr, 2, none⟩ = some (.slice AC l2.length cC) := (blk_cell BR.out 2).trans rfl; have hfgr0_ := blk_frozen BR.out 0; have hfgr1_ := blk_frozen BR.out 1; have hfgr2_ := blk_frozen BR.out 2)
  | (go_at_call 30; refine (slices_ContainsFunc_Eval1 k HE.out A6 c6 l6 b0 b1 AC cC l2 gr t _ (Kd.C_below HR6.out HB.out) HL.out (Kd.C_below HR2.out HB.out) HC2.out BR.out HT.out).mono ?_; rintro e w3 ⟨rfl, hb3⟩; have HB3 := zM (below_step HB.out hb3); clear HB; have HB := HB3; clear hb3))
 go_ret
 exact ⟨rfl, mB HB.out⟩
set_option maxHeartbeats 8000000 in
set_option maxRecDepth 100000 in
theorem pred_Eval_some (k : Nat) (a0 : Int) (a1 : ByteArray) (a2 a3 : Int) (a4 : ByteArray) (A5 : Option Addr) (c5 : Nat) (l5 : List ByteArray) (A6 : Option Addr) (c6 : Nat) (l6 : List S25) (b0 b1 : Int) (AC : Option Addr) (cC : Nat) (l2 : List S52) (w : World)
  (hr5 : Kd.C Kd.string w A5 l5.length l5) (hc5 : l5.length ≤ c5) (hr6 : Kd.C k25 w A6 l6.length l6) (hc6 : l6.length ≤ c6) (hr2 : Kd.C k52 w AC l2.length l2) (hc2 : l2.length ≤ cC) (h2 : a0 = 2) (hE : pred_EvalAt k) (hl : l6.length ≤ 9223372036854775807) (t : Bool) (ht : pred_any (fun x => pred_Eval.f k x.f0 x.f1 x.f2 x.f3 x.f4 x.f5 x.f6 b0 b1 l2) l6 = some t) :
  Calls Try.prog 15 #[.agg #[.int .i64 a0, .string a1, .int .i64 a2, .int .i64 a3, .string a4, .slice A5 l5.length c5, .slice A6 l6.length c6], .agg #[.int .i64 b0, .int .i64 b1, .slice AC l2.length cC]] w fun e w' => e = .returned (.bool t) ∧ Below w.heap.size w w' := by
 have hu1 := Try.underlying25
 have hu2 := Try.underlying36
 have hmf : ∀ (fn : Fn) (first cap : Array Value) (w : World), (Instr.makeFunc fn first cap).run Try.prog w = .ok (.func fn first cap) w := fun _ _ _ _ => rfl
 have HR5 := zM hr5
 have HC5 := zM hc5
 have HR6 := zM hr6
 have HC6 := zM hc6
 have HR2 := zM hr2
 have HC2 := zM hc2
 have HB := zM (Below.refl w.heap.size w)
 clear hr5 hc5 hr6 hc6 hr2 hc2
 subst h2
 have HE := zM hE
 have HL := zM hl
 have HT := zM ht
 clear hE hl ht
 go_enter Try.func15, Try.ntmps15
 go_wp2_with (first
  | ((with_reducible refine gate_dst (N := 2) rfl ?_); refine box_event ?hg (N := 2) ?hd (cs := #[.int .i64 2, .string a1, .int .i64 a2, .int .i64 a3, .string a4, .slice A5 l5.length c5, .slice A6 l6.length c6]) (t := 25) ?hr ?_; (case hd => rfl); (case hg => rfl); (case hr => first | (go_simp; done) | (go_simp; rfl)); intro gp hgq w1 hbox hb; have HB1 := zM hb; have BP := zM hbox; clear HB; have HB := HB1; clear HB1 hb hbox hgq; have hygp0_ : w1.cell? ⟨gp, 0, none⟩ = some (.int .i64 2) := (blk_cell BP.out 0).trans rfl; have hygp1_ : w1.cell? ⟨gp, 1, none⟩ = some (.string a1) := (blk_cell BP.out 1).trans rfl; have hygp2_ : w1.cell? ⟨gp, 2, none⟩ = some (.int .i64 a2) := (blk_cell BP.out 2).trans rfl; have hygp3_ : w1.cell? ⟨gp, 3, none⟩ = some (.int .i64 a3) := (blk_cell BP.out 3).trans rfl; have hygp4_ : w1.cell? ⟨gp, 4, none⟩ = some (.string a4) := (blk_cell BP.out 4).trans rfl; have hygp5_ : w1.cell? ⟨gp, 5, none⟩ = some (.slice A5 l5.length c5) := (blk_cell BP.out 5).trans rfl; have hygp6_ : w1.cell? ⟨gp, 6, none⟩ = some (.slice A6 l6.length c6) := (blk_cell BP.out 6).trans rfl; have hggp0_ := blk_frozen BP.out 0; have hggp1_ := blk_frozen BP.out 1; have hggp2_ := blk_frozen BP.out 2; have hggp3_ := blk_frozen BP.out 3; have hggp4_ := blk_frozen BP.out 4; have hggp5_ := blk_frozen BP.out 5; have hggp6_ := blk_frozen BP.out 6)
  | ((with_reducible refine gate_dst (N := 3) rfl ?_); refine box_event ?hg (N := 3) ?hd (cs := #[.int .i64 b0, .int .i64 b1, .slice AC l2.length cC]) (t := 36) ?hr ?_; (case hd => rfl); (case hg => rfl); (case hr => first | (go_simp; done) | (go_simp; rfl)); intro gr hgq w2 hbox hb; have HB1 := zM (below_step HB.out hb); have BR := zM hbox; have BP1 := zM (blk_below BP.out hb); have hne := Nat.ne_of_lt (blk_lt BP.out); rw [← hgq] at hne; have hne2 := hne.symm; clear HB BP; have HB := HB1; have BP := BP1; clear HB1 BP1 hb hbox hgq; have hzgp0_ : w2.cell? ⟨gp, 0, none⟩ = some (.int .i64 2) := (blk_cell BP.out 0).trans rfl; have hzgp1_ : w2.cell? ⟨gp, 1, none⟩ = some (.string a1) := (blk_cell BP.out 1).trans rfl; have hzgp2_ : w2.cell? ⟨gp, 2, none⟩ = some (.int .i64 a2) := (blk_cell BP.out 2).trans rfl; have hzgp3_ : w2.cell? ⟨gp, 3, none⟩ = some (.int .i64 a3) := (blk_cell BP.out 3).trans rfl; have hzgp4_ : w2.cell? ⟨gp, 4, none⟩ = some (.string a4) := (blk_cell BP.out 4).trans rfl; have hzgp5_ : w2.cell? ⟨gp, 5, none⟩ = some (.slice A5 l5.length c5) := (blk_cell BP.out 5).trans rfl; have hzgp6_ : w2.cell? ⟨gp, 6, none⟩ = some (.slice A6 l6.length c6) := (blk_cell BP.out 6).trans rfl; have hfgp0_ := blk_frozen BP.out 0; have hfgp1_ := blk_frozen BP.out 1; have hfgp2_ := blk_frozen BP.out 2; have hfgp3_ := blk_frozen BP.out 3; have hfgp4_ := blk_frozen BP.out 4; have hfgp5_ := blk_frozen BP.out 5; have hfgp6_ := blk_frozen BP.out 6; have hzgr0_ : w2.cell? ⟨gr, 0, none⟩ = some (.int .i64 b0) := (blk_cell BR.out 0).trans rfl; have hzgr1_ : w2.cell? ⟨gr, 1, none⟩ = some (.int .i64 b1) := (blk_cell BR.out 1).trans rfl; have hzgr2_ : w2.cell? ⟨gr, 2, none⟩ = some (.slice AC l2.length cC) := (blk_cell BR.out 2).trans rfl; have hfgr0_ := blk_frozen BR.out 0; have hfgr1_ := blk_frozen BR.out 1; have hfgr2_ := blk_frozen BR.out 2)
  | (go_at_call 30; refine (slices_ContainsFunc_Eval2 k HE.out A6 c6 l6 b0 b1 AC cC l2 gr t _ (Kd.C_below HR6.out HB.out) HL.out (Kd.C_below HR2.out HB.out) HC2.out BR.out HT.out).mono ?_; rintro e w3 ⟨rfl, hb3⟩; have HB3 := zM (below_step HB.out hb3); clear HB; have HB := HB3; clear hb3))
 go_ret
 exact ⟨rfl, mB HB.out⟩
set_option maxHeartbeats 8000000 in
set_option maxRecDepth 100000 in
theorem pred_Eval_between (k : Nat) (a0 : Int) (a1 : ByteArray) (a2 a3 : Int) (a4 : ByteArray) (A5 : Option Addr) (c5 : Nat) (l5 : List ByteArray) (A6 : Option Addr) (c6 : Nat) (l6 : List S25) (b0 b1 : Int) (AC : Option Addr) (cC : Nat) (l2 : List S52) (w : World)
  (hr5 : Kd.C Kd.string w A5 l5.length l5) (hc5 : l5.length ≤ c5) (hr6 : Kd.C k25 w A6 l6.length l6) (hc6 : l6.length ≤ c6) (hr2 : Kd.C k52 w AC l2.length l2) (hc2 : l2.length ≤ cC) (h10 : a0 = 10) (q : Bool) (hq : decide (a2 ≤ b0) = q) :
  Calls Try.prog 15 #[.agg #[.int .i64 a0, .string a1, .int .i64 a2, .int .i64 a3, .string a4, .slice A5 l5.length c5, .slice A6 l6.length c6], .agg #[.int .i64 b0, .int .i64 b1, .slice AC l2.length cC]] w fun e w' => e = .returned (.bool (q && decide (b0 ≤ a3))) ∧ Below w.heap.size w w' := by
 have hu1 := Try.underlying25
 have hu2 := Try.underlying36
 have hmf : ∀ (fn : Fn) (first cap : Array Value) (w : World), (Instr.makeFunc fn first cap).run Try.prog w = .ok (.func fn first cap) w := fun _ _ _ _ => rfl
 have HR5 := zM hr5
 have HC5 := zM hc5
 have HR6 := zM hr6
 have HC6 := zM hc6
 have HR2 := zM hr2
 have HC2 := zM hc2
 have HB := zM (Below.refl w.heap.size w)
 clear hr5 hc5 hr6 hc6 hr2 hc2
 subst h10
 cases q
 all_goals
  go_enter Try.func15, Try.ntmps15
  go_wp2_with (first
  | ((with_reducible refine gate_dst (N := 2) rfl ?_); refine box_event ?hg (N := 2) ?hd (cs := #[.int .i64 10, .string a1, .int .i64 a2, .int .i64 a3, .string a4, .slice A5 l5.length c5, .slice A6 l6.length c6]) (t := 25) ?hr ?_; (case hd => rfl); (case hg => rfl); (case hr => first | (go_simp; done) | (go_simp; rfl)); intro gp hgq w1 hbox hb; have HB1 := zM hb; have BP := zM hbox; clear HB; have HB := HB1; clear HB1 hb hbox hgq; have hygp0_ : w1.cell? ⟨gp, 0, none⟩ = some (.int .i64 10) := (blk_cell BP.out 0).trans rfl; have hygp1_ : w1.cell? ⟨gp, 1, none⟩ = some (.string a1) := (blk_cell BP.out 1).trans rfl; have hygp2_ : w1.cell? ⟨gp, 2, none⟩ = some (.int .i64 a2) := (blk_cell BP.out 2).trans rfl; have hygp3_ : w1.cell? ⟨gp, 3, none⟩ = some (.int .i64 a3) := (blk_cell BP.out 3).trans rfl; have hygp4_ : w1.cell? ⟨gp, 4, none⟩ = some (.string a4) := (blk_cell BP.out 4).trans rfl; have hygp5_ : w1.cell? ⟨gp, 5, none⟩ = some (.slice A5 l5.length c5) := (blk_cell BP.out 5).trans rfl; have hygp6_ : w1.cell? ⟨gp, 6, none⟩ = some (.slice A6 l6.length c6) := (blk_cell BP.out 6).trans rfl; have hggp0_ := blk_frozen BP.out 0; have hggp1_ := blk_frozen BP.out 1; have hggp2_ := blk_frozen BP.out 2; have hggp3_ := blk_frozen BP.out 3; have hggp4_ := blk_frozen BP.out 4; have hggp5_ := blk_frozen BP.out 5; have hggp6_ := blk_frozen BP.out 6)
  | ((with_reducible refine gate_dst (N := 3) rfl ?_); refine box_event ?hg (N := 3) ?hd (cs := #[.int .i64 b0, .int .i64 b1, .slice AC l2.length cC]) (t := 36) ?hr ?_; (case hd => rfl); (case hg => rfl); (case hr => first | (go_simp; done) | (go_simp; rfl)); intro gr hgq w2 hbox hb; have HB1 := zM (below_step HB.out hb); have BR := zM hbox; have BP1 := zM (blk_below BP.out hb); have hne := Nat.ne_of_lt (blk_lt BP.out); rw [← hgq] at hne; have hne2 := hne.symm; clear HB BP; have HB := HB1; have BP := BP1; clear HB1 BP1 hb hbox hgq; have hzgp0_ : w2.cell? ⟨gp, 0, none⟩ = some (.int .i64 10) := (blk_cell BP.out 0).trans rfl; have hzgp1_ : w2.cell? ⟨gp, 1, none⟩ = some (.string a1) := (blk_cell BP.out 1).trans rfl; have hzgp2_ : w2.cell? ⟨gp, 2, none⟩ = some (.int .i64 a2) := (blk_cell BP.out 2).trans rfl; have hzgp3_ : w2.cell? ⟨gp, 3, none⟩ = some (.int .i64 a3) := (blk_cell BP.out 3).trans rfl; have hzgp4_ : w2.cell? ⟨gp, 4, none⟩ = some (.string a4) := (blk_cell BP.out 4).trans rfl; have hzgp5_ : w2.cell? ⟨gp, 5, none⟩ = some (.slice A5 l5.length c5) := (blk_cell BP.out 5).trans rfl; have hzgp6_ : w2.cell? ⟨gp, 6, none⟩ = some (.slice A6 l6.length c6) := (blk_cell BP.out 6).trans rfl; have hfgp0_ := blk_frozen BP.out 0; have hfgp1_ := blk_frozen BP.out 1; have hfgp2_ := blk_frozen BP.out 2; have hfgp3_ := blk_frozen BP.out 3; have hfgp4_ := blk_frozen BP.out 4; have hfgp5_ := blk_frozen BP.out 5; have hfgp6_ := blk_frozen BP.out 6; have hzgr0_ : w2.cell? ⟨gr, 0, none⟩ = some (.int .i64 b0) := (blk_cell BR.out 0).trans rfl; have hzgr1_ : w2.cell? ⟨gr, 1, none⟩ = some (.int .i64 b1) := (blk_cell BR.out 1).trans rfl; have hzgr2_ : w2.cell? ⟨gr, 2, none⟩ = some (.slice AC l2.length cC) := (blk_cell BR.out 2).trans rfl; have hfgr0_ := blk_frozen BR.out 0; have hfgr1_ := blk_frozen BR.out 1; have hfgr2_ := blk_frozen BR.out 2))
  go_ret
  exact ⟨by first | rfl | simp, mB HB.out⟩
/-- What holds while a region of pred.Eval runs. -/
def pred_EvalS (w : World) (gp gr : Nat) (a0 : Int) (a1 : ByteArray) (a2 a3 : Int) (a4 : ByteArray) (A5 : Option Addr) (c5 : Nat) (l5 : List ByteArray) (A6 : Option Addr) (c6 : Nat) (l6 : List S25) (b0 b1 : Int) (AC : Option Addr) (cC : Nat) (l2 : List S52) (w' : World) : Prop := w'.heap[gp]? = some (.cells #[.int .i64 a0, .string a1, .int .i64 a2, .int .i64 a3, .string a4, .slice A5 l5.length c5, .slice A6 l6.length c6] 25 (0, 0)) ∧ w'.heap[gr]? = some (.cells #[.int .i64 b0, .int .i64 b1, .slice AC l2.length cC] 36 (0, 0)) ∧ Below w.heap.size w w'
theorem pred_EvalS.all {w : World} {gp gr : Nat} {a0 : Int} {a1 : ByteArray} {a2 a3 : Int} {a4 : ByteArray} {A5 : Option Addr} {c5 : Nat} {l5 : List ByteArray} {A6 : Option Addr} {c6 : Nat} {l6 : List S25} {b0 b1 : Int} {AC : Option Addr} {cC : Nat} {l2 : List S52} {w' : World} (h : pred_EvalS w gp gr a0 a1 a2 a3 a4 A5 c5 l5 A6 c6 l6 b0 b1 AC cC l2 w') : w'.cell? ⟨gp, 0, none⟩ = some (.int .i64 a0) ∧ w'.cell? ⟨gp, 1, none⟩ = some (.string a1) ∧ w'.cell? ⟨gp, 2, none⟩ = some (.int .i64 a2) ∧ w'.cell? ⟨gp, 3, none⟩ = some (.int .i64 a3) ∧ w'.cell? ⟨gp, 4, none⟩ = some (.string a4) ∧ w'.cell? ⟨gp, 5, none⟩ = some (.slice A5 l5.length c5) ∧ w'.cell? ⟨gp, 6, none⟩ = some (.slice A6 l6.length c6) ∧ w'.cell? ⟨gr, 0, none⟩ = some (.int .i64 b0) ∧ w'.cell? ⟨gr, 1, none⟩ = some (.int .i64 b1) ∧ w'.cell? ⟨gr, 2, none⟩ = some (.slice AC l2.length cC) ∧ pred_EvalS w gp gr a0 a1 a2 a3 a4 A5 c5 l5 A6 c6 l6 b0 b1 AC cC l2 w' :=
 ⟨(blk_cell h.1 0).trans rfl, (blk_cell h.1 1).trans rfl, (blk_cell h.1 2).trans rfl, (blk_cell h.1 3).trans rfl, (blk_cell h.1 4).trans rfl, (blk_cell h.1 5).trans rfl, (blk_cell h.1 6).trans rfl, (blk_cell h.2.1 0).trans rfl, (blk_cell h.2.1 1).trans rfl, (blk_cell h.2.1 2).trans rfl, h⟩
theorem pred_EvalS.step {w : World} {gp gr : Nat} {a0 : Int} {a1 : ByteArray} {a2 a3 : Int} {a4 : ByteArray} {A5 : Option Addr} {c5 : Nat} {l5 : List ByteArray} {A6 : Option Addr} {c6 : Nat} {l6 : List S25} {b0 b1 : Int} {AC : Option Addr} {cC : Nat} {l2 : List S52} {w' w2 : World} (h : pred_EvalS w gp gr a0 a1 a2 a3 a4 A5 c5 l5 A6 c6 l6 b0 b1 AC cC l2 w') (hb : Below w'.heap.size w' w2) : pred_EvalS w gp gr a0 a1 a2 a3 a4 A5 c5 l5 A6 c6 l6 b0 b1 AC cC l2 w2 := ⟨blk_below h.1 hb, blk_below h.2.1 hb, below_step h.2.2 hb⟩
theorem pred_EvalS.drew {w : World} {gp gr : Nat} {a0 : Int} {a1 : ByteArray} {a2 a3 : Int} {a4 : ByteArray} {A5 : Option Addr} {c5 : Nat} {l5 : List ByteArray} {A6 : Option Addr} {c6 : Nat} {l6 : List S25} {b0 b1 : Int} {AC : Option Addr} {cC : Nat} {l2 : List S52} {w' : World} (h : pred_EvalS w gp gr a0 a1 a2 a3 a4 A5 c5 l5 A6 c6 l6 b0 b1 AC cC l2 w') : pred_EvalS w gp gr a0 a1 a2 a3 a4 A5 c5 l5 A6 c6 l6 b0 b1 AC cC l2 w'.drew := ⟨h.1, h.2.1, below_drew h.2.2⟩
theorem pred_EvalS.of {w : World} {gp gr : Nat} {a0 : Int} {a1 : ByteArray} {a2 a3 : Int} {a4 : ByteArray} {A5 : Option Addr} {c5 : Nat} {l5 : List ByteArray} {A6 : Option Addr} {c6 : Nat} {l6 : List S25} {b0 b1 : Int} {AC : Option Addr} {cC : Nat} {l2 : List S52} {w' : World} (h : w'.cell? ⟨gp, 0, none⟩ = some (.int .i64 a0) ∧ w'.cell? ⟨gp, 1, none⟩ = some (.string a1) ∧ w'.cell? ⟨gp, 2, none⟩ = some (.int .i64 a2) ∧ w'.cell? ⟨gp, 3, none⟩ = some (.int .i64 a3) ∧ w'.cell? ⟨gp, 4, none⟩ = some (.string a4) ∧ w'.cell? ⟨gp, 5, none⟩ = some (.slice A5 l5.length c5) ∧ w'.cell? ⟨gp, 6, none⟩ = some (.slice A6 l6.length c6) ∧ w'.cell? ⟨gr, 0, none⟩ = some (.int .i64 b0) ∧ w'.cell? ⟨gr, 1, none⟩ = some (.int .i64 b1) ∧ w'.cell? ⟨gr, 2, none⟩ = some (.slice AC l2.length cC) ∧ pred_EvalS w gp gr a0 a1 a2 a3 a4 A5 c5 l5 A6 c6 l6 b0 b1 AC cC l2 w') : pred_EvalS w gp gr a0 a1 a2 a3 a4 A5 c5 l5 A6 c6 l6 b0 b1 AC cC l2 w' := h.2.2.2.2.2.2.2.2.2.2
set_option maxHeartbeats 8000000 in
set_option maxRecDepth 100000 in
theorem pred_Eval_cell (k : Nat) (a0 : Int) (a1 : ByteArray) (a2 a3 : Int) (a4 : ByteArray) (A5 : Option Addr) (c5 : Nat) (l5 : List ByteArray) (A6 : Option Addr) (c6 : Nat) (l6 : List S25) (b0 b1 : Int) (AC : Option Addr) (cC : Nat) (l2 : List S52) (w : World)
  (hr5 : Kd.C Kd.string w A5 l5.length l5) (hc5 : l5.length ≤ c5) (hr6 : Kd.C k25 w A6 l6.length l6) (hc6 : l6.length ≤ c6) (hr2 : Kd.C k52 w AC l2.length l2) (hc2 : l2.length ≤ cC) (h1 : a0 ≠ 1) (h2 : a0 ≠ 2) (h3 : a0 ≠ 3) (h10 : a0 ≠ 10) (c1 : ByteArray) (c2 c3 : Int) (c4 : ByteArray) (ht1 : row_Cell.f k b0 b1 l2 a1 = some (c1, c2, c3, c4)) (r : Bool) (ht2 : pred_Cell.f k a0 a1 a2 a3 a4 l5 l6 c1 c2 c3 c4 = some r) :
  Calls Try.prog 15 #[.agg #[.int .i64 a0, .string a1, .int .i64 a2, .int .i64 a3, .string a4, .slice A5 l5.length c5, .slice A6 l6.length c6], .agg #[.int .i64 b0, .int .i64 b1, .slice AC l2.length cC]] w fun e w' => e = .returned (.bool r) ∧ Below w.heap.size w w' := by
 have hu1 := Try.underlying25
 have hu2 := Try.underlying36
 have hmf : ∀ (fn : Fn) (first cap : Array Value) (w : World), (Instr.makeFunc fn first cap).run Try.prog w = .ok (.func fn first cap) w := fun _ _ _ _ => rfl
 have HR5 := zM hr5
 have HC5 := zM hc5
 have HR6 := zM hr6
 have HC6 := zM hc6
 have HR2 := zM hr2
 have HC2 := zM hc2
 have HB := zM (Below.refl w.heap.size w)
 clear hr5 hc5 hr6 hc6 hr2 hc2
 have n1 : (a0 == 1) = false := beq_eq_false_iff_ne.mpr h1
 have n2 : (a0 == 2) = false := beq_eq_false_iff_ne.mpr h2
 have n3 : (a0 == 3) = false := beq_eq_false_iff_ne.mpr h3
 have n10 : (a0 == 10) = false := beq_eq_false_iff_ne.mpr h10
 have HT1 := zM ht1
 have HT2 := zM ht2
 clear ht1 ht2
 go_enter Try.func15, Try.ntmps15
 go_wp2_with (first
  | ((with_reducible refine gate_dst (N := 2) rfl ?_); refine box_event ?hg (N := 2) ?hd (cs := #[.int .i64 a0, .string a1, .int .i64 a2, .int .i64 a3, .string a4, .slice A5 l5.length c5, .slice A6 l6.length c6]) (t := 25) ?hr ?_; (case hd => rfl); (case hg => rfl); (case hr => first | (go_simp; done) | (go_simp; rfl)); intro gp hgq w1 hbox hb; have HB1 := zM hb; have BP := zM hbox; clear HB; have HB := HB1; clear HB1 hb hbox hgq; have hygp0_ : w1.cell? ⟨gp, 0, none⟩ = some (.int .i64 a0) := (blk_cell BP.out 0).trans rfl; have hygp1_ : w1.cell? ⟨gp, 1, none⟩ = some (.string a1) := (blk_cell BP.out 1).trans rfl; have hygp2_ : w1.cell? ⟨gp, 2, none⟩ = some (.int .i64 a2) := (blk_cell BP.out 2).trans rfl; have hygp3_ : w1.cell? ⟨gp, 3, none⟩ = some (.int .i64 a3) := (blk_cell BP.out 3).trans rfl; have hygp4_ : w1.cell? ⟨gp, 4, none⟩ = some (.string a4) := (blk_cell BP.out 4).trans rfl; have hygp5_ : w1.cell? ⟨gp, 5, none⟩ = some (.slice A5 l5.length c5) := (blk_cell BP.out 5).trans rfl; have hygp6_ : w1.cell? ⟨gp, 6, none⟩ = some (.slice A6 l6.length c6) := (blk_cell BP.out 6).trans rfl; have hggp0_ := blk_frozen BP.out 0; have hggp1_ := blk_frozen BP.out 1; have hggp2_ := blk_frozen BP.out 2; have hggp3_ := blk_frozen BP.out 3; have hggp4_ := blk_frozen BP.out 4; have hggp5_ := blk_frozen BP.out 5; have hggp6_ := blk_frozen BP.out 6)
  | ((with_reducible refine gate_dst (N := 3) rfl ?_); refine box_event ?hg (N := 3) ?hd (cs := #[.int .i64 b0, .int .i64 b1, .slice AC l2.length cC]) (t := 36) ?hr ?_; (case hd => rfl); (case hg => rfl); (case hr => first | (go_simp; done) | (go_simp; rfl)); intro gr hgq w2 hbox hb; have HB1 := zM (below_step HB.out hb); have BR := zM hbox; have BP1 := zM (blk_below BP.out hb); have hne := Nat.ne_of_lt (blk_lt BP.out); rw [← hgq] at hne; have hne2 := hne.symm; clear HB BP; have HB := HB1; have BP := BP1; clear HB1 BP1 hb hbox hgq; have hzgp0_ : w2.cell? ⟨gp, 0, none⟩ = some (.int .i64 a0) := (blk_cell BP.out 0).trans rfl; have hzgp1_ : w2.cell? ⟨gp, 1, none⟩ = some (.string a1) := (blk_cell BP.out 1).trans rfl; have hzgp2_ : w2.cell? ⟨gp, 2, none⟩ = some (.int .i64 a2) := (blk_cell BP.out 2).trans rfl; have hzgp3_ : w2.cell? ⟨gp, 3, none⟩ = some (.int .i64 a3) := (blk_cell BP.out 3).trans rfl; have hzgp4_ : w2.cell? ⟨gp, 4, none⟩ = some (.string a4) := (blk_cell BP.out 4).trans rfl; have hzgp5_ : w2.cell? ⟨gp, 5, none⟩ = some (.slice A5 l5.length c5) := (blk_cell BP.out 5).trans rfl; have hzgp6_ : w2.cell? ⟨gp, 6, none⟩ = some (.slice A6 l6.length c6) := (blk_cell BP.out 6).trans rfl; have hfgp0_ := blk_frozen BP.out 0; have hfgp1_ := blk_frozen BP.out 1; have hfgp2_ := blk_frozen BP.out 2; have hfgp3_ := blk_frozen BP.out 3; have hfgp4_ := blk_frozen BP.out 4; have hfgp5_ := blk_frozen BP.out 5; have hfgp6_ := blk_frozen BP.out 6; have hzgr0_ : w2.cell? ⟨gr, 0, none⟩ = some (.int .i64 b0) := (blk_cell BR.out 0).trans rfl; have hzgr1_ : w2.cell? ⟨gr, 1, none⟩ = some (.int .i64 b1) := (blk_cell BR.out 1).trans rfl; have hzgr2_ : w2.cell? ⟨gr, 2, none⟩ = some (.slice AC l2.length cC) := (blk_cell BR.out 2).trans rfl; have hfgr0_ := blk_frozen BR.out 0; have hfgr1_ := blk_frozen BR.out 1; have hfgr2_ := blk_frozen BR.out 2))
 go_region_held3 (fun w' => w'.cell? ⟨gp, 0, none⟩ = some (.int .i64 a0) ∧ w'.cell? ⟨gp, 1, none⟩ = some (.string a1) ∧ w'.cell? ⟨gp, 2, none⟩ = some (.int .i64 a2) ∧ w'.cell? ⟨gp, 3, none⟩ = some (.int .i64 a3) ∧ w'.cell? ⟨gp, 4, none⟩ = some (.string a4) ∧ w'.cell? ⟨gp, 5, none⟩ = some (.slice A5 l5.length c5) ∧ w'.cell? ⟨gp, 6, none⟩ = some (.slice A6 l6.length c6) ∧ w'.cell? ⟨gr, 0, none⟩ = some (.int .i64 b0) ∧ w'.cell? ⟨gr, 1, none⟩ = some (.int .i64 b1) ∧ w'.cell? ⟨gr, 2, none⟩ = some (.slice AC l2.length cC) ∧ pred_EvalS w gp gr a0 a1 a2 a3 a4 A5 c5 l5 A6 c6 l6 b0 b1 AC cC l2 w') (first | exact pred_EvalS.all (pred_EvalS.step HS_ hb3) | exact pred_EvalS.all (pred_EvalS.drew (by assumption)) | exact pred_EvalS.all (pred_EvalS.drew ⟨BP.out, BR.out, HB.out⟩) | (go_keep; done)) (first | (go_at_call 34; have HS_ := pred_EvalS.of (w := w) (gp := gp) (gr := gr) (a0 := a0) (a1 := a1) (l2 := l2) (by assumption); refine (row_Cell.calls k b0 b1 AC cC l2 a1 c1 c2 c3 c4 _ (Kd.C_below HR2.out HS_.2.2) HC2.out HT1.out).mono ?_; rintro e w3 ⟨rfl, hb3⟩) | (go_at_call 33; have HS_ := pred_EvalS.of (w := w) (gp := gp) (gr := gr) (a0 := a0) (a1 := a1) (l2 := l2) (by assumption); refine (pred_Cell.calls k a0 a1 a2 a3 a4 A5 c5 l5 A6 c6 l6 c1 c2 c3 c4 r _ (Kd.C_below HR5.out HS_.2.2) HC5.out (Kd.C_below HR6.out HS_.2.2) HC6.out HT2.out).mono ?_; rintro e w3 ⟨rfl, hb3⟩))
 go_wp2
 go_ret
 exact ⟨rfl, (pred_EvalS.of (w := w) (gp := gp) (gr := gr) (a0 := a0) (a1 := a1) (l2 := l2) (by assumption)).2.2⟩
/-- What holds while the region of pred.Eval runs that asks the first kid. -/
def pred_EvalK (w : World) (gp gr : Nat) (a1 : ByteArray) (a2 a3 : Int) (a4 : ByteArray) (A5 : Option Addr) (c5 : Nat) (l5 : List ByteArray) (ad : Addr) (c6 : Nat) (l6 : List S25) (b0 b1 : Int) (AC : Option Addr) (cC : Nat) (l2 : List S52) (x : S25) (A5q : Option Addr) (c5q : Nat) (A6q : Option Addr) (c6q : Nat) (w' : World) : Prop := pred_EvalS w gp gr 3 a1 a2 a3 a4 A5 c5 l5 (some ad) c6 l6 b0 b1 AC cC l2 w' ∧ w'.cell? ad = some (.int .i64 x.f0) ∧ w'.cell? ⟨ad.block, ad.off + 1, none⟩ = some (.string x.f1) ∧ w'.cell? ⟨ad.block, ad.off + 2, none⟩ = some (.int .i64 x.f2) ∧ w'.cell? ⟨ad.block, ad.off + 3, none⟩ = some (.int .i64 x.f3) ∧ w'.cell? ⟨ad.block, ad.off + 4, none⟩ = some (.string x.f4) ∧ w'.cell? ⟨ad.block, ad.off + 5, none⟩ = some (.slice A5q x.f5.length c5q) ∧ w'.cell? ⟨ad.block, ad.off + 6, none⟩ = some (.slice A6q x.f6.length c6q)
theorem pred_EvalK.all {w : World} {gp gr : Nat} {a1 : ByteArray} {a2 a3 : Int} {a4 : ByteArray} {A5 : Option Addr} {c5 : Nat} {l5 : List ByteArray} {ad : Addr} {c6 : Nat} {l6 : List S25} {b0 b1 : Int} {AC : Option Addr} {cC : Nat} {l2 : List S52} {x : S25} {A5q : Option Addr} {c5q : Nat} {A6q : Option Addr} {c6q : Nat} {w' : World} (h : pred_EvalK w gp gr a1 a2 a3 a4 A5 c5 l5 ad c6 l6 b0 b1 AC cC l2 x A5q c5q A6q c6q w') : w'.cell? ⟨gp, 0, none⟩ = some (.int .i64 3) ∧ w'.cell? ⟨gp, 1, none⟩ = some (.string a1) ∧ w'.cell? ⟨gp, 2, none⟩ = some (.int .i64 a2) ∧ w'.cell? ⟨gp, 3, none⟩ = some (.int .i64 a3) ∧ w'.cell? ⟨gp, 4, none⟩ = some (.string a4) ∧ w'.cell? ⟨gp, 5, none⟩ = some (.slice A5 l5.length c5) ∧ w'.cell? ⟨gp, 6, none⟩ = some (.slice (some ad) l6.length c6) ∧ w'.cell? ⟨gr, 0, none⟩ = some (.int .i64 b0) ∧ w'.cell? ⟨gr, 1, none⟩ = some (.int .i64 b1) ∧ w'.cell? ⟨gr, 2, none⟩ = some (.slice AC l2.length cC) ∧ w'.cell? ad = some (.int .i64 x.f0) ∧ w'.cell? ⟨ad.block, ad.off + 1, none⟩ = some (.string x.f1) ∧ w'.cell? ⟨ad.block, ad.off + 2, none⟩ = some (.int .i64 x.f2) ∧ w'.cell? ⟨ad.block, ad.off + 3, none⟩ = some (.int .i64 x.f3) ∧ w'.cell? ⟨ad.block, ad.off + 4, none⟩ = some (.string x.f4) ∧ w'.cell? ⟨ad.block, ad.off + 5, none⟩ = some (.slice A5q x.f5.length c5q) ∧ w'.cell? ⟨ad.block, ad.off + 6, none⟩ = some (.slice A6q x.f6.length c6q) ∧ pred_EvalK w gp gr a1 a2 a3 a4 A5 c5 l5 ad c6 l6 b0 b1 AC cC l2 x A5q c5q A6q c6q w' :=
 ⟨(blk_cell h.1.1 0).trans rfl, (blk_cell h.1.1 1).trans rfl, (blk_cell h.1.1 2).trans rfl, (blk_cell h.1.1 3).trans rfl, (blk_cell h.1.1 4).trans rfl, (blk_cell h.1.1 5).trans rfl, (blk_cell h.1.1 6).trans rfl, (blk_cell h.1.2.1 0).trans rfl, (blk_cell h.1.2.1 1).trans rfl, (blk_cell h.1.2.1 2).trans rfl, h.2.1, h.2.2.1, h.2.2.2.1, h.2.2.2.2.1, h.2.2.2.2.2.1, h.2.2.2.2.2.2.1, h.2.2.2.2.2.2.2, h⟩
theorem pred_EvalK.step {w : World} {gp gr : Nat} {a1 : ByteArray} {a2 a3 : Int} {a4 : ByteArray} {A5 : Option Addr} {c5 : Nat} {l5 : List ByteArray} {ad : Addr} {c6 : Nat} {l6 : List S25} {b0 b1 : Int} {AC : Option Addr} {cC : Nat} {l2 : List S52} {x : S25} {A5q : Option Addr} {c5q : Nat} {A6q : Option Addr} {c6q : Nat} {w' w2 : World} (h : pred_EvalK w gp gr a1 a2 a3 a4 A5 c5 l5 ad c6 l6 b0 b1 AC cC l2 x A5q c5q A6q c6q w') (hb : Below w'.heap.size w' w2) : pred_EvalK w gp gr a1 a2 a3 a4 A5 c5 l5 ad c6 l6 b0 b1 AC cC l2 x A5q c5q A6q c6q w2 :=
 ⟨h.1.step hb, (hb.cell (World.block_lt_of_cell? _ _ (h.2.1))).trans (h.2.1), (hb.cell (World.block_lt_of_cell? _ _ (h.2.2.1))).trans (h.2.2.1), (hb.cell (World.block_lt_of_cell? _ _ (h.2.2.2.1))).trans (h.2.2.2.1), (hb.cell (World.block_lt_of_cell? _ _ (h.2.2.2.2.1))).trans (h.2.2.2.2.1), (hb.cell (World.block_lt_of_cell? _ _ (h.2.2.2.2.2.1))).trans (h.2.2.2.2.2.1), (hb.cell (World.block_lt_of_cell? _ _ (h.2.2.2.2.2.2.1))).trans (h.2.2.2.2.2.2.1), (hb.cell (World.block_lt_of_cell? _ _ (h.2.2.2.2.2.2.2))).trans (h.2.2.2.2.2.2.2)⟩
theorem pred_EvalK.drew {w : World} {gp gr : Nat} {a1 : ByteArray} {a2 a3 : Int} {a4 : ByteArray} {A5 : Option Addr} {c5 : Nat} {l5 : List ByteArray} {ad : Addr} {c6 : Nat} {l6 : List S25} {b0 b1 : Int} {AC : Option Addr} {cC : Nat} {l2 : List S52} {x : S25} {A5q : Option Addr} {c5q : Nat} {A6q : Option Addr} {c6q : Nat} {w' : World} (h : pred_EvalK w gp gr a1 a2 a3 a4 A5 c5 l5 ad c6 l6 b0 b1 AC cC l2 x A5q c5q A6q c6q w') : pred_EvalK w gp gr a1 a2 a3 a4 A5 c5 l5 ad c6 l6 b0 b1 AC cC l2 x A5q c5q A6q c6q w'.drew := ⟨h.1.drew, h.2⟩
theorem pred_EvalK.of {w : World} {gp gr : Nat} {a1 : ByteArray} {a2 a3 : Int} {a4 : ByteArray} {A5 : Option Addr} {c5 : Nat} {l5 : List ByteArray} {ad : Addr} {c6 : Nat} {l6 : List S25} {b0 b1 : Int} {AC : Option Addr} {cC : Nat} {l2 : List S52} {x : S25} {A5q : Option Addr} {c5q : Nat} {A6q : Option Addr} {c6q : Nat} {w' : World} (h : w'.cell? ⟨gp, 0, none⟩ = some (.int .i64 3) ∧ w'.cell? ⟨gp, 1, none⟩ = some (.string a1) ∧ w'.cell? ⟨gp, 2, none⟩ = some (.int .i64 a2) ∧ w'.cell? ⟨gp, 3, none⟩ = some (.int .i64 a3) ∧ w'.cell? ⟨gp, 4, none⟩ = some (.string a4) ∧ w'.cell? ⟨gp, 5, none⟩ = some (.slice A5 l5.length c5) ∧ w'.cell? ⟨gp, 6, none⟩ = some (.slice (some ad) l6.length c6) ∧ w'.cell? ⟨gr, 0, none⟩ = some (.int .i64 b0) ∧ w'.cell? ⟨gr, 1, none⟩ = some (.int .i64 b1) ∧ w'.cell? ⟨gr, 2, none⟩ = some (.slice AC l2.length cC) ∧ w'.cell? ad = some (.int .i64 x.f0) ∧ w'.cell? ⟨ad.block, ad.off + 1, none⟩ = some (.string x.f1) ∧ w'.cell? ⟨ad.block, ad.off + 2, none⟩ = some (.int .i64 x.f2) ∧ w'.cell? ⟨ad.block, ad.off + 3, none⟩ = some (.int .i64 x.f3) ∧ w'.cell? ⟨ad.block, ad.off + 4, none⟩ = some (.string x.f4) ∧ w'.cell? ⟨ad.block, ad.off + 5, none⟩ = some (.slice A5q x.f5.length c5q) ∧ w'.cell? ⟨ad.block, ad.off + 6, none⟩ = some (.slice A6q x.f6.length c6q) ∧ pred_EvalK w gp gr a1 a2 a3 a4 A5 c5 l5 ad c6 l6 b0 b1 AC cC l2 x A5q c5q A6q c6q w') : pred_EvalK w gp gr a1 a2 a3 a4 A5 c5 l5 ad c6 l6 b0 b1 AC cC l2 x A5q c5q A6q c6q w' := h.2.2.2.2.2.2.2.2.2.2.2.2.2.2.2.2.2
set_option maxHeartbeats 8000000 in
set_option maxRecDepth 100000 in
theorem pred_Eval_not (k : Nat) (a0 : Int) (a1 : ByteArray) (a2 a3 : Int) (a4 : ByteArray) (A5 : Option Addr) (c5 : Nat) (l5 : List ByteArray) (A6 : Option Addr) (c6 : Nat) (l6 : List S25) (b0 b1 : Int) (AC : Option Addr) (cC : Nat) (l2 : List S52) (w : World)
  (hr5 : Kd.C Kd.string w A5 l5.length l5) (hc5 : l5.length ≤ c5) (hr6 : Kd.C k25 w A6 l6.length l6) (hc6 : l6.length ≤ c6) (hr2 : Kd.C k52 w AC l2.length l2) (hc2 : l2.length ≤ cC) (h3 : a0 = 3) (hE : pred_EvalAt k) (hl : 0 < l6.length) (t : Bool) (ht : pred_Eval.f k (rd_T25 l6 0).f0 (rd_T25 l6 0).f1 (rd_T25 l6 0).f2 (rd_T25 l6 0).f3 (rd_T25 l6 0).f4 (rd_T25 l6 0).f5 (rd_T25 l6 0).f6 b0 b1 l2 = some t) :
  Calls Try.prog 15 #[.agg #[.int .i64 a0, .string a1, .int .i64 a2, .int .i64 a3, .string a4, .slice A5 l5.length c5, .slice A6 l6.length c6], .agg #[.int .i64 b0, .int .i64 b1, .slice AC l2.length cC]] w fun e w' => e = .returned (.bool (!t)) ∧ Below w.heap.size w w' := by
 have hu1 := Try.underlying25
 have hu2 := Try.underlying36
 have hmf : ∀ (fn : Fn) (first cap : Array Value) (w : World), (Instr.makeFunc fn first cap).run Try.prog w = .ok (.func fn first cap) w := fun _ _ _ _ => rfl
 have HR5 := zM hr5
 have HC5 := zM hc5
 have HR6 := zM hr6
 have HC6 := zM hc6
 have HR2 := zM hr2
 have HC2 := zM hc2
 have HB := zM (Below.refl w.heap.size w)
 clear hr5 hc5 hr6 hc6 hr2 hc2
 subst h3
 have HE := zM hE
 obtain ⟨ad, A5q, c5q, A6q, c6q, e1, hx0, hx1, hx2, hx3, hx4, hx5, hx6, lc5_, l5_, lc6_, l6_⟩ := at_T25 HR6.out 0 (by omega) (by omega)
 cases e1
 obtain ⟨x, hx⟩ : ∃ x, x = rd_T25 l6 0 := ⟨_, rfl⟩
 rw [← hx] at hx0 hx1 hx2 hx3 hx4 hx5 hx6 lc5_ l5_ lc6_ l6_ ht
 rw [show ((0 : Int)).toNat = 0 from rfl, show 0 * 7 = 0 from rfl, Addr.add_zero'] at hx0 hx1 hx2 hx3 hx4 hx5 hx6
 have KX0 := zM hx0
 have KX1 := zM hx1
 have KX2 := zM hx2
 have KX3 := zM hx3
 have KX4 := zM hx4
 have KX5 := zM hx5
 have KX6 := zM hx6
 have LC5 := zM lc5_
 have LQ5 := zM l5_
 have LC6 := zM lc6_
 have LQ6 := zM l6_
 have HT := zM ht
 have cl0 : decide (0 < (l6.length : Int)) = true := decide_eq_true (by omega)
 have cl1 : decide (0 < l6.length) = true := decide_eq_true (by omega)
 have cl2 : (0 < l6.length) = True := eq_true hl
 clear hE ht hl hx hx0 hx1 hx2 hx3 hx4 hx5 hx6 lc5_ l5_ lc6_ l6_
 go_enter Try.func15, Try.ntmps15
 go_wp2_with (first
  | ((with_reducible refine gate_dst (N := 2) rfl ?_); refine box_event ?hg (N := 2) ?hd (cs := #[.int .i64 3, .string a1, .int .i64 a2, .int .i64 a3, .string a4, .slice A5 l5.length c5, .slice (some ad) l6.length c6]) (t := 25) ?hr ?_; (case hd => rfl); (case hg => rfl); (case hr => first | (go_simp; done) | (go_simp; rfl)); intro gp hgq w1 hbox hb; have HB1 := zM hb; have BP := zM hbox; clear HB; have HB := HB1; clear HB1 hb hbox hgq; have hygp0_ : w1.cell? ⟨gp, 0, none⟩ = some (.int .i64 3) := (blk_cell BP.out 0).trans rfl; have hygp1_ : w1.cell? ⟨gp, 1, none⟩ = some (.string a1) := (blk_cell BP.out 1).trans rfl; have hygp2_ : w1.cell? ⟨gp, 2, none⟩ = some (.int .i64 a2) := (blk_cell BP.out 2).trans rfl; have hygp3_ : w1.cell? ⟨gp, 3, none⟩ = some (.int .i64 a3) := (blk_cell BP.out 3).trans rfl; have hygp4_ : w1.cell? ⟨gp, 4, none⟩ = some (.string a4) := (blk_cell BP.out 4).trans rfl; have hygp5_ : w1.cell? ⟨gp, 5, none⟩ = some (.slice A5 l5.length c5) := (blk_cell BP.out 5).trans rfl; have hygp6_ : w1.cell? ⟨gp, 6, none⟩ = some (.slice (some ad) l6.length c6) := (blk_cell BP.out 6).trans rfl; have hggp0_ := blk_frozen BP.out 0; have hggp1_ := blk_frozen BP.out 1; have hggp2_ := blk_frozen BP.out 2; have hggp3_ := blk_frozen BP.out 3; have hggp4_ := blk_frozen BP.out 4; have hggp5_ := blk_frozen BP.out 5; have hggp6_ := blk_frozen BP.out 6)
  | ((with_reducible refine gate_dst (N := 3) rfl ?_); refine box_event ?hg (N := 3) ?hd (cs := #[.int .i64 b0, .int .i64 b1, .slice AC l2.length cC]) (t := 36) ?hr ?_; (case hd => rfl); (case hg => rfl); (case hr => first | (go_simp; done) | (go_simp; rfl)); intro gr hgq w2 hbox hb; have HB1 := zM (below_step HB.out hb); have BR := zM hbox; have BP1 := zM (blk_below BP.out hb); have hne := Nat.ne_of_lt (blk_lt BP.out); rw [← hgq] at hne; have hne2 := hne.symm; clear HB BP; have HB := HB1; have BP := BP1; clear HB1 BP1 hb hbox hgq; have hzgp0_ : w2.cell? ⟨gp, 0, none⟩ = some (.int .i64 3) := (blk_cell BP.out 0).trans rfl; have hzgp1_ : w2.cell? ⟨gp, 1, none⟩ = some (.string a1) := (blk_cell BP.out 1).trans rfl; have hzgp2_ : w2.cell? ⟨gp, 2, none⟩ = some (.int .i64 a2) := (blk_cell BP.out 2).trans rfl; have hzgp3_ : w2.cell? ⟨gp, 3, none⟩ = some (.int .i64 a3) := (blk_cell BP.out 3).trans rfl; have hzgp4_ : w2.cell? ⟨gp, 4, none⟩ = some (.string a4) := (blk_cell BP.out 4).trans rfl; have hzgp5_ : w2.cell? ⟨gp, 5, none⟩ = some (.slice A5 l5.length c5) := (blk_cell BP.out 5).trans rfl; have hzgp6_ : w2.cell? ⟨gp, 6, none⟩ = some (.slice (some ad) l6.length c6) := (blk_cell BP.out 6).trans rfl; have hfgp0_ := blk_frozen BP.out 0; have hfgp1_ := blk_frozen BP.out 1; have hfgp2_ := blk_frozen BP.out 2; have hfgp3_ := blk_frozen BP.out 3; have hfgp4_ := blk_frozen BP.out 4; have hfgp5_ := blk_frozen BP.out 5; have hfgp6_ := blk_frozen BP.out 6; have hzgr0_ : w2.cell? ⟨gr, 0, none⟩ = some (.int .i64 b0) := (blk_cell BR.out 0).trans rfl; have hzgr1_ : w2.cell? ⟨gr, 1, none⟩ = some (.int .i64 b1) := (blk_cell BR.out 1).trans rfl; have hzgr2_ : w2.cell? ⟨gr, 2, none⟩ = some (.slice AC l2.length cC) := (blk_cell BR.out 2).trans rfl; have hfgr0_ := blk_frozen BR.out 0; have hfgr1_ := blk_frozen BR.out 1; have hfgr2_ := blk_frozen BR.out 2))
 go_region_held3 (fun w' => w'.cell? ⟨gp, 0, none⟩ = some (.int .i64 3) ∧ w'.cell? ⟨gp, 1, none⟩ = some (.string a1) ∧ w'.cell? ⟨gp, 2, none⟩ = some (.int .i64 a2) ∧ w'.cell? ⟨gp, 3, none⟩ = some (.int .i64 a3) ∧ w'.cell? ⟨gp, 4, none⟩ = some (.string a4) ∧ w'.cell? ⟨gp, 5, none⟩ = some (.slice A5 l5.length c5) ∧ w'.cell? ⟨gp, 6, none⟩ = some (.slice (some ad) l6.length c6) ∧ w'.cell? ⟨gr, 0, none⟩ = some (.int .i64 b0) ∧ w'.cell? ⟨gr, 1, none⟩ = some (.int .i64 b1) ∧ w'.cell? ⟨gr, 2, none⟩ = some (.slice AC l2.length cC) ∧ w'.cell? ad = some (.int .i64 x.f0) ∧ w'.cell? ⟨ad.block, ad.off + 1, none⟩ = some (.string x.f1) ∧ w'.cell? ⟨ad.block, ad.off + 2, none⟩ = some (.int .i64 x.f2) ∧ w'.cell? ⟨ad.block, ad.off + 3, none⟩ = some (.int .i64 x.f3) ∧ w'.cell? ⟨ad.block, ad.off + 4, none⟩ = some (.string x.f4) ∧ w'.cell? ⟨ad.block, ad.off + 5, none⟩ = some (.slice A5q x.f5.length c5q) ∧ w'.cell? ⟨ad.block, ad.off + 6, none⟩ = some (.slice A6q x.f6.length c6q) ∧ pred_EvalK w gp gr a1 a2 a3 a4 A5 c5 l5 ad c6 l6 b0 b1 AC cC l2 x A5q c5q A6q c6q w') (first | exact pred_EvalK.all (pred_EvalK.step HS_ hb3) | exact pred_EvalK.all (pred_EvalK.drew (by assumption)) | exact pred_EvalK.all (pred_EvalK.drew ⟨⟨BP.out, BR.out, HB.out⟩, (HB.out.cell (World.block_lt_of_cell? _ _ KX0.out)).trans KX0.out, (HB.out.cell (World.block_lt_of_cell? _ _ KX1.out)).trans KX1.out, (HB.out.cell (World.block_lt_of_cell? _ _ KX2.out)).trans KX2.out, (HB.out.cell (World.block_lt_of_cell? _ _ KX3.out)).trans KX3.out, (HB.out.cell (World.block_lt_of_cell? _ _ KX4.out)).trans KX4.out, (HB.out.cell (World.block_lt_of_cell? _ _ KX5.out)).trans KX5.out, (HB.out.cell (World.block_lt_of_cell? _ _ KX6.out)).trans KX6.out⟩) | (go_keep; done)) (first | (go_at_call 15; have HS_ := pred_EvalK.of (w := w) (gp := gp) (gr := gr) (a1 := a1) (l2 := l2) (x := x) (by assumption); refine (HE.out _ _ _ _ _ A5q c5q _ A6q c6q _ b0 b1 AC cC l2 t _ (Kd.C_below LQ5.out HS_.1.2.2) LC5.out (Kd.C_below LQ6.out HS_.1.2.2) LC6.out (Kd.C_below HR2.out HS_.1.2.2) HC2.out HT.out).mono ?_; rintro e w3 ⟨rfl, hb3⟩))
 go_wp2
 go_ret
 exact ⟨rfl, (pred_EvalK.of (w := w) (gp := gp) (gr := gr) (a1 := a1) (l2 := l2) (x := x) (by assumption)).1.2.2⟩
set_option maxHeartbeats 8000000 in
set_option maxRecDepth 100000 in
theorem pred_Eval_none (k : Nat) (a0 : Int) (a1 : ByteArray) (a2 a3 : Int) (a4 : ByteArray) (A5 : Option Addr) (c5 : Nat) (l5 : List ByteArray) (A6 : Option Addr) (c6 : Nat) (l6 : List S25) (b0 b1 : Int) (AC : Option Addr) (cC : Nat) (l2 : List S52) (w : World)
  (hr5 : Kd.C Kd.string w A5 l5.length l5) (hc5 : l5.length ≤ c5) (hr6 : Kd.C k25 w A6 l6.length l6) (hc6 : l6.length ≤ c6) (hr2 : Kd.C k52 w AC l2.length l2) (hc2 : l2.length ≤ cC) (h3 : a0 = 3) (hl : ¬ 0 < l6.length) :
  Calls Try.prog 15 #[.agg #[.int .i64 a0, .string a1, .int .i64 a2, .int .i64 a3, .string a4, .slice A5 l5.length c5, .slice A6 l6.length c6], .agg #[.int .i64 b0, .int .i64 b1, .slice AC l2.length cC]] w fun e w' => e = .returned (.bool false) ∧ Below w.heap.size w w' := by
 have hu1 := Try.underlying25
 have hu2 := Try.underlying36
 have hmf : ∀ (fn : Fn) (first cap : Array Value) (w : World), (Instr.makeFunc fn first cap).run Try.prog w = .ok (.func fn first cap) w := fun _ _ _ _ => rfl
 have HR5 := zM hr5
 have HC5 := zM hc5
 have HR6 := zM hr6
 have HC6 := zM hc6
 have HR2 := zM hr2
 have HC2 := zM hc2
 have HB := zM (Below.refl w.heap.size w)
 clear hr5 hc5 hr6 hc6 hr2 hc2
 subst h3
 have cl0 : decide (0 < (l6.length : Int)) = false := decide_eq_false (by omega)
 have cl1 : decide (0 < l6.length) = false := decide_eq_false hl
 have cl2 : (0 < l6.length) = False := eq_false hl
 clear hl
 go_enter Try.func15, Try.ntmps15
 go_wp2_with (first
  | ((with_reducible refine gate_dst (N := 2) rfl ?_); refine box_event ?hg (N := 2) ?hd (cs := #[.int .i64 3, .string a1, .int .i64 a2, .int .i64 a3, .string a4, .slice A5 l5.length c5, .slice A6 l6.length c6]) (t := 25) ?hr ?_; (case hd => rfl); (case hg => rfl); (case hr => first | (go_simp; done) | (go_simp; rfl)); intro gp hgq w1 hbox hb; have HB1 := zM hb; have BP := zM hbox; clear HB; have HB := HB1; clear HB1 hb hbox hgq; have hygp0_ : w1.cell? ⟨gp, 0, none⟩ = some (.int .i64 3) := (blk_cell BP.out 0).trans rfl; have hygp1_ : w1.cell? ⟨gp, 1, none⟩ = some (.string a1) := (blk_cell BP.out 1).trans rfl; have hygp2_ : w1.cell? ⟨gp, 2, none⟩ = some (.int .i64 a2) := (blk_cell BP.out 2).trans rfl; have hygp3_ : w1.cell? ⟨gp, 3, none⟩ = some (.int .i64 a3) := (blk_cell BP.out 3).trans rfl; have hygp4_ : w1.cell? ⟨gp, 4, none⟩ = some (.string a4) := (blk_cell BP.out 4).trans rfl; have hygp5_ : w1.cell? ⟨gp, 5, none⟩ = some (.slice A5 l5.length c5) := (blk_cell BP.out 5).trans rfl; have hygp6_ : w1.cell? ⟨gp, 6, none⟩ = some (.slice A6 l6.length c6) := (blk_cell BP.out 6).trans rfl; have hggp0_ := blk_frozen BP.out 0; have hggp1_ := blk_frozen BP.out 1; have hggp2_ := blk_frozen BP.out 2; have hggp3_ := blk_frozen BP.out 3; have hggp4_ := blk_frozen BP.out 4; have hggp5_ := blk_frozen BP.out 5; have hggp6_ := blk_frozen BP.out 6)
  | ((with_reducible refine gate_dst (N := 3) rfl ?_); refine box_event ?hg (N := 3) ?hd (cs := #[.int .i64 b0, .int .i64 b1, .slice AC l2.length cC]) (t := 36) ?hr ?_; (case hd => rfl); (case hg => rfl); (case hr => first | (go_simp; done) | (go_simp; rfl)); intro gr hgq w2 hbox hb; have HB1 := zM (below_step HB.out hb); have BR := zM hbox; have BP1 := zM (blk_below BP.out hb); have hne := Nat.ne_of_lt (blk_lt BP.out); rw [← hgq] at hne; have hne2 := hne.symm; clear HB BP; have HB := HB1; have BP := BP1; clear HB1 BP1 hb hbox hgq; have hzgp0_ : w2.cell? ⟨gp, 0, none⟩ = some (.int .i64 3) := (blk_cell BP.out 0).trans rfl; have hzgp1_ : w2.cell? ⟨gp, 1, none⟩ = some (.string a1) := (blk_cell BP.out 1).trans rfl; have hzgp2_ : w2.cell? ⟨gp, 2, none⟩ = some (.int .i64 a2) := (blk_cell BP.out 2).trans rfl; have hzgp3_ : w2.cell? ⟨gp, 3, none⟩ = some (.int .i64 a3) := (blk_cell BP.out 3).trans rfl; have hzgp4_ : w2.cell? ⟨gp, 4, none⟩ = some (.string a4) := (blk_cell BP.out 4).trans rfl; have hzgp5_ : w2.cell? ⟨gp, 5, none⟩ = some (.slice A5 l5.length c5) := (blk_cell BP.out 5).trans rfl; have hzgp6_ : w2.cell? ⟨gp, 6, none⟩ = some (.slice A6 l6.length c6) := (blk_cell BP.out 6).trans rfl; have hfgp0_ := blk_frozen BP.out 0; have hfgp1_ := blk_frozen BP.out 1; have hfgp2_ := blk_frozen BP.out 2; have hfgp3_ := blk_frozen BP.out 3; have hfgp4_ := blk_frozen BP.out 4; have hfgp5_ := blk_frozen BP.out 5; have hfgp6_ := blk_frozen BP.out 6; have hzgr0_ : w2.cell? ⟨gr, 0, none⟩ = some (.int .i64 b0) := (blk_cell BR.out 0).trans rfl; have hzgr1_ : w2.cell? ⟨gr, 1, none⟩ = some (.int .i64 b1) := (blk_cell BR.out 1).trans rfl; have hzgr2_ : w2.cell? ⟨gr, 2, none⟩ = some (.slice AC l2.length cC) := (blk_cell BR.out 2).trans rfl; have hfgr0_ := blk_frozen BR.out 0; have hfgr1_ := blk_frozen BR.out 1; have hfgr2_ := blk_frozen BR.out 2))
 go_quiet (fail)
 go_wp2
 go_ret
 exact ⟨rfl, mB HB.out⟩
theorem pred_Eval_at : ∀ k, pred_EvalAt k
 | 0 => by
  intro a0 a1 a2 a3 a4 A5 c5 l5 A6 c6 l6 b0 b1 AC cC l2 r w hr5 hc5 hr6 hc6 hr2 hc2 h
  simp [pred_Eval.f] at h
 | k + 1 => by
  intro a0 a1 a2 a3 a4 A5 c5 l5 A6 c6 l6 b0 b1 AC cC l2 r w hr5 hc5 hr6 hc6 hr2 hc2 h
  rw [pred_Eval.f] at h
  by_cases h1 : a0 = 1
  ·rw [if_pos h1] at h
   by_cases hl : l6.length ≤ 9223372036854775807
   ·rw [if_pos hl] at h
    obtain ⟨t, ht, rfl⟩ := Option.map_eq_some_iff.mp h
    exact pred_Eval_all k a0 a1 a2 a3 a4 A5 c5 l5 A6 c6 l6 b0 b1 AC cC l2 w hr5 hc5 hr6 hc6 hr2 hc2 h1 (pred_Eval_at k) hl t ht
   rw [if_neg hl] at h
   cases h
  rw [if_neg h1] at h
  by_cases h2 : a0 = 2
  ·rw [if_pos h2] at h
   by_cases hl : l6.length ≤ 9223372036854775807
   ·rw [if_pos hl] at h
    exact pred_Eval_some k a0 a1 a2 a3 a4 A5 c5 l5 A6 c6 l6 b0 b1 AC cC l2 w hr5 hc5 hr6 hc6 hr2 hc2 h2 (pred_Eval_at k) hl r h
   rw [if_neg hl] at h
   cases h
  rw [if_neg h2] at h
  by_cases h3 : a0 = 3
  ·rw [if_pos h3] at h
   by_cases hl : 0 < l6.length
   ·rw [if_pos hl] at h
    obtain ⟨t, ht, rfl⟩ := Option.map_eq_some_iff.mp h
    exact pred_Eval_not k a0 a1 a2 a3 a4 A5 c5 l5 A6 c6 l6 b0 b1 AC cC l2 w hr5 hc5 hr6 hc6 hr2 hc2 h3 (pred_Eval_at k) hl t ht
   rw [if_neg hl] at h
   obtain rfl := Option.some.inj h
   exact pred_Eval_none k a0 a1 a2 a3 a4 A5 c5 l5 A6 c6 l6 b0 b1 AC cC l2 w hr5 hc5 hr6 hc6 hr2 hc2 h3 hl
  rw [if_neg h3] at h
  by_cases h10 : a0 = 10
  ·rw [if_pos h10] at h
   by_cases hq : a2 ≤ b0
   ·rw [if_pos hq] at h
    obtain rfl := Option.some.inj h
    exact pred_Eval_between k a0 a1 a2 a3 a4 A5 c5 l5 A6 c6 l6 b0 b1 AC cC l2 w hr5 hc5 hr6 hc6 hr2 hc2 h10 true (decide_eq_true hq)
   rw [if_neg hq] at h
   obtain rfl := Option.some.inj h
   exact pred_Eval_between k a0 a1 a2 a3 a4 A5 c5 l5 A6 c6 l6 b0 b1 AC cC l2 w hr5 hc5 hr6 hc6 hr2 hc2 h10 false (decide_eq_false hq)
  rw [if_neg h10] at h
  obtain ⟨⟨c1, c2, c3, c4⟩, ht1, ht2⟩ := Option.bind_eq_some_iff.mp h
  exact pred_Eval_cell k a0 a1 a2 a3 a4 A5 c5 l5 A6 c6 l6 b0 b1 AC cC l2 w hr5 hc5 hr6 hc6 hr2 hc2 h1 h2 h3 h10 c1 c2 c3 c4 ht1 r ht2
theorem pred_Eval.calls (k : Nat) : ∀ (a0 : Int) (a1 : ByteArray) (a2 a3 : Int) (a4 : ByteArray) (A5 : Option Addr) (c5 : Nat) (l5 : List ByteArray) (A6 : Option Addr) (c6 : Nat) (l6 : List S25) (b0 b1 : Int) (AC : Option Addr) (cC : Nat) (l2 : List S52) (r : Bool) (w : World)
  (hr5 : Kd.C Kd.string w A5 l5.length l5) (hc5 : l5.length ≤ c5) (hr6 : Kd.C k25 w A6 l6.length l6) (hc6 : l6.length ≤ c6) (hr2 : Kd.C k52 w AC l2.length l2) (hc2 : l2.length ≤ cC) (h : pred_Eval.f k a0 a1 a2 a3 a4 l5 l6 b0 b1 l2 = some r),
  Calls Try.prog 15 #[.agg #[.int .i64 a0, .string a1, .int .i64 a2, .int .i64 a3, .string a4, .slice A5 l5.length c5, .slice A6 l6.length c6], .agg #[.int .i64 b0, .int .i64 b1, .slice AC l2.length cC]] w fun e w' => e = .returned (.bool r) ∧ Below w.heap.size w w' := pred_Eval_at k

/-! ### columbariumlaw13_nots: function 16 -/
def columbariumlaw13_nots.l0 : Nat → Int → Int → ByteArray → Int → Int → ByteArray → List ByteArray → List (S25) → Option (Int × ByteArray × Int × Int × ByteArray × List ByteArray × (List (S25)))
 | 0, _, _, _, _, _, _, _, _ => none
 | k + 1, x1, x290000, x290001, x290002, x290003, x290004, x290005, x290006 => if x1 > 0 then (columbariumlaw13_nots.l0 k (wrap64 (x1 - 1)) 3 (⟨#[]⟩ : ByteArray) 0 0 (⟨#[]⟩ : ByteArray) ([] : List ByteArray) (([(⟨x290000, x290001, x290002, x290003, x290004, x290005, x290006⟩ : S25)] : List (S25)))) else (some (x290000, x290001, x290002, x290003, x290004, x290005, x290006))
def columbariumlaw13_nots.f (k : Nat) (a0_0 : Int) (a0_1 : ByteArray) (a0_2 : Int) (a0_3 : Int) (a0_4 : ByteArray) (l0_5 : List ByteArray) (l0_6 : List (S25)) (a1 : Int) : Option (Int × ByteArray × Int × Int × ByteArray × List ByteArray × (List (S25))) := columbariumlaw13_nots.l0 k a1 a0_0 a0_1 a0_2 a0_3 a0_4 l0_5 l0_6
theorem columbariumlaw13_nots.mono_l : ∀ k, (∀ y0 y1 y2 y3 y4 y5 y6 y7, LeO (columbariumlaw13_nots.l0 k y0 y1 y2 y3 y4 y5 y6 y7) (columbariumlaw13_nots.l0 (k + 1) y0 y1 y2 y3 y4 y5 y6 y7))
 | 0 => fun _ _ _ _ _ _ _ _ r h => by simp [columbariumlaw13_nots.l0] at h
 | k + 1 => by
  have ih0 := columbariumlaw13_nots.mono_l k
  ·intro y0 y1 y2 y3 y4 y5 y6 y7
   unfold columbariumlaw13_nots.l0
   repeat' first
   | (with_reducible exact ih0 _ _ _ _ _ _ _ _)
   | (with_reducible exact LeO.refl _)
   | (with_reducible exact LeO.none _)
   | (with_reducible refine LeO.ite ?_ ?_)
   | (with_reducible refine LeO.bind ?_ (fun _ => ?_))
   | exact ih0 _ _ _ _ _ _ _ _
   | exact LeO.none _
   | refine LeO.ite ?_ ?_
   | refine LeO.bind ?_ (fun _ => ?_)
theorem columbariumlaw13_nots.mono : ∀ a0 a1 a2 a3 a4 a5 a6 a7 k, LeO (columbariumlaw13_nots.f k a0 a1 a2 a3 a4 a5 a6 a7) (columbariumlaw13_nots.f (k + 1) a0 a1 a2 a3 a4 a5 a6 a7) := by
 intro a0 a1 a2 a3 a4 a5 a6 a7 k
 have ih0 := columbariumlaw13_nots.mono_l k
 unfold columbariumlaw13_nots.f
 repeat' first
   | (with_reducible exact ih0 _ _ _ _ _ _ _ _)
   | (with_reducible exact LeO.refl _)
   | (with_reducible exact LeO.none _)
   | (with_reducible refine LeO.ite ?_ ?_)
   | (with_reducible refine LeO.bind ?_ (fun _ => ?_))
   | exact ih0 _ _ _ _ _ _ _ _
   | exact LeO.none _
   | refine LeO.ite ?_ ?_
   | refine LeO.bind ?_ (fun _ => ?_)
set_option maxHeartbeats 8000000 in
set_option maxRecDepth 100000 in
theorem columbariumlaw13_nots.calls (k : Nat) (a0_0 : Int) (a0_1 : ByteArray) (a0_2 : Int) (a0_3 : Int) (a0_4 : ByteArray) (P0_5_ : Nat → Prop) (A0_5 : Option Addr) (c0_5 : Nat) (l0_5 : List ByteArray) (P0_6_ : Nat → Prop) (A0_6 : Option Addr) (c0_6 : Nat) (l0_6 : List (S25)) (a1 : Int) (r1 : Int) (r2 : ByteArray) (r3 : Int) (r4 : Int) (r5 : ByteArray) (r6 : List ByteArray) (r7 : List (S25)) (w : World) (hs0_5 : Kd.V Kd.string 9 w w.heap.size (fun k_ => P0_5_ k_) (.slice A0_5 l0_5.length c0_5) l0_5) (hs0_6 : Kd.V k25 25 w w.heap.size (fun k_ => P0_6_ k_) (.slice A0_6 l0_6.length c0_6) l0_6) (h : columbariumlaw13_nots.f k a0_0 a0_1 a0_2 a0_3 a0_4 l0_5 l0_6 a1 = some (r1, r2, r3, r4, r5, r6, r7)) :
  Calls Try.prog 16 #[.agg #[.int .i64 a0_0, .string a0_1, .int .i64 a0_2, .int .i64 a0_3, .string a0_4, .slice A0_5 l0_5.length c0_5, .slice A0_6 l0_6.length c0_6], .int .i64 a1] w fun e w' => ∃ v5_ v6_ : Value, e = .returned (.agg #[.int .i64 r1, .string r2, .int .i64 r3, .int .i64 r4, .string r5, v5_, v6_]) ∧ Kd.V Kd.string 9 w' w.heap.size (fun k_ => ((P0_5_ k_ ∨ P0_6_ k_) ∨ w.heap.size ≤ k_)) v5_ r6 ∧ Kd.V k25 25 w' w.heap.size (fun k_ => ((P0_5_ k_ ∨ P0_6_ k_) ∨ w.heap.size ≤ k_)) v6_ r7 ∧ Below w.heap.size w w' := by
 have hu25 := Try.underlying25
 have HO0_5 := zM (show Kd.V Kd.string 9 w w.heap.size (fun k_ => ((P0_5_ k_ ∨ P0_6_ k_) ∨ w.heap.size ≤ k_)) (.slice A0_5 l0_5.length c0_5) l0_5 from Kd.V_mono hs0_5 (fun k_ hk => .inl (.inl hk)))
 have HO0_6 := zM (show Kd.V k25 25 w w.heap.size (fun k_ => ((P0_5_ k_ ∨ P0_6_ k_) ∨ w.heap.size ≤ k_)) (.slice A0_6 l0_6.length c0_6) l0_6 from Kd.V_mono hs0_6 (fun k_ hk => .inl (.inr hk)))
 have HB := zM (Below.refl w.heap.size w)
 have H : (columbariumlaw13_nots.l0 k a1 a0_0 a0_1 a0_2 a0_3 a0_4 l0_5 l0_6) = some (r1, r2, r3, r4, r5, r6, r7) := h
 clear h
 have H' := Aside0.mk H
 clear H
 go_enter Try.func16, Try.ntmps16
 go_wp2_with (first | ((with_reducible refine gate_dst (N := 2) rfl ?_); refine box_event ?hg (N := 2) ?hd (cs := #[.int .i64 a0_0, .string a0_1, .int .i64 a0_2, .int .i64 a0_3, .string a0_4, .slice A0_5 l0_5.length c0_5, .slice A0_6 l0_6.length c0_6]) (t := 25) ?hr ?_; (case hd => rfl); (case hg => rfl); (case hr => first | (go_simp; done) | (go_simp; rfl)); intro gb289 hg w3 hbox hb; replace HO0_5 := zM (Kd.V_below (Kd.V_elderB (mV HO0_5.out) gb289 (Nat.le_of_eq hg.symm)) hb); replace HO0_6 := zM (Kd.V_below (Kd.V_elderB (mV HO0_6.out) gb289 (Nat.le_of_eq hg.symm)) hb); have BK289 := zM (hbox); have GW289 := zM ((by rw [hg]; exact (below_size (mB HB.out)) : w.heap.size ≤ gb289)); replace HB := zM (below_step (mB HB.out) hb); have GE289 := GW289; clear hb hbox hg) | ((with_reducible refine gate_dst (N := 4) rfl ?_); refine box_event ?hg (N := 4) ?hd (cs := #[.int .i64 0, .string (⟨#[]⟩ : ByteArray), .int .i64 0, .int .i64 0, .string (⟨#[]⟩ : ByteArray), .slice none 0 0, .slice none 0 0]) (t := 25) ?hr ?_; (case hd => rfl); (case hg => rfl); (case hr => first | (go_simp; done) | (go_simp; rfl)); intro gb290 hg w4 hbox hb; replace HO0_5 := zM (Kd.V_below (Kd.V_elderB (mV HO0_5.out) gb290 (Nat.le_of_eq hg.symm)) hb); replace HO0_6 := zM (Kd.V_below (Kd.V_elderB (mV HO0_6.out) gb290 (Nat.le_of_eq hg.symm)) hb); have BK290 := zM (hbox); have GW290 := zM ((by rw [hg]; exact (below_size mZ) : w.heap.size ≤ gb290)); replace HB := zM (below_step mZ hb); have GE290 := GW290; have NB289_290 := zL BK289 hg; have NB290_289 := zG BK289 hg; replace BK289 := zK BK289 hb; clear hb hbox hg))
 try simp only [Act.put, List.setIfInBounds_toArray, List.set_cons_zero, List.set_cons_succ]
 go_loopg [1] k (fun kq v1 w' => ∃ (x1_1 : Int) (x290000_1 : Int) (x290001_1 : ByteArray) (x290002_1 : Int) (x290003_1 : Int) (x290004_1 : ByteArray) (x290005_1 : List ByteArray) (x290006_1 : List (S25)) (u290005 : Value) (u290006 : Value), v1 = .int .i64 x1_1 ∧ Aside0 (columbariumlaw13_nots.l0 kq x1_1 x290000_1 x290001_1 x290002_1 x290003_1 x290004_1 x290005_1 x290006_1 = some (r1, r2, r3, r4, r5, r6, r7)) ∧ Aside0 (kq ≤ k) ∧ Aside0 (Kd.V Kd.string 9 w' w.heap.size (fun k_ => ((P0_5_ k_ ∨ P0_6_ k_) ∨ w.heap.size ≤ k_) ∧ k_ ≠ gb289 ∧ k_ ≠ gb290) u290005 x290005_1) ∧ Aside0 (Kd.V k25 25 w' w.heap.size (fun k_ => ((P0_5_ k_ ∨ P0_6_ k_) ∨ w.heap.size ≤ k_) ∧ k_ ≠ gb289 ∧ k_ ≠ gb290) u290006 x290006_1) ∧ Aside0 (w'.heap[gb289]? = some (.cells #[.int .i64 x290000_1, .string x290001_1, .int .i64 x290002_1, .int .i64 x290003_1, .string x290004_1, u290005, u290006] 25 (0, 0))) ∧ Aside0 (w'.heap[gb290]? = some (.cells #[.int .i64 0, .string (⟨#[]⟩ : ByteArray), .int .i64 0, .int .i64 0, .string (⟨#[]⟩ : ByteArray), (.slice none 0 0), (.slice none 0 0)] 25 (0, 0))) ∧ Aside0 (Below w.heap.size w w'))
 case atStart => exact ⟨(a1), (a0_0), (a0_1), (a0_2), (a0_3), (a0_4), (l0_5), (l0_6), (.slice A0_5 l0_5.length c0_5), (.slice A0_6 l0_6.length c0_6), ya, H', ⟨Nat.le_refl _⟩, ⟨yV HO0_5 (fun _ hk => ⟨hk.1.1, ⟨hk.1.2, hk.2⟩⟩)⟩, ⟨yV HO0_6 (fun _ hk => ⟨hk.1.1, ⟨hk.1.2, hk.2⟩⟩)⟩, ⟨mK BK289.out⟩, ⟨mK BK290.out⟩, ⟨mZ⟩⟩
 case round =>
  clear H'
  try clear BK289
  try clear BK290
  obtain ⟨x1_1, x290000_1, x290001_1, x290002_1, x290003_1, x290004_1, x290005_1, x290006_1, u290005, u290006, rfl, HA, HK1, HO_290005, HO_290006, BK289, BK290, HB⟩ := hrel
  cases gk with
  | zero => exact absurd HA.out (by simp [columbariumlaw13_nots.l0])
  | succ k1 =>
   have H := HA.out
   clear HA
   simp only [columbariumlaw13_nots.l0] at H
   by_cases c5 : x1_1 > 0
   ·rw [if_pos c5] at H
    have c5b0 : decide (0 < x1_1) = true := decide_eq_true c5
    clear c5
    obtain ⟨y291, hy291⟩ : ∃ y_ : List (S25), y_ = (([(⟨x290000_1, x290001_1, x290002_1, x290003_1, x290004_1, x290005_1, x290006_1⟩ : S25)] : List (S25))) := ⟨_, rfl⟩
    replace H : (columbariumlaw13_nots.l0 k1 (wrap64 (x1_1 - 1)) 3 (⟨#[]⟩ : ByteArray) 0 0 (⟨#[]⟩ : ByteArray) ([] : List ByteArray) y291) = some (r1, r2, r3, r4, r5, r6, r7) := by first | (rw [hy291]; with_reducible exact H) | (have H2_ := (Option.bind_some _ _).symm.trans H; rw [hy291]; with_reducible exact H2_) | (have H2_ := (Option.bind_some _ _).symm.trans H; with_reducible exact H2_) | with_reducible exact H | (rw [hy291]; exact H) | exact H
    have Ny291 := zM hy291
    clear hy291
    have H' := Aside0.mk H
    clear H
    have hnb6 := NB289_290.out
    have hnc6 := NB290_289.out
    obtain ⟨hcz7_0, hcz7_1, hcz7_2, hcz7_3, hcz7_4, hcz7_5, hcz7_6, hfz7_0, hfz7_1, hfz7_2, hfz7_3, hfz7_4, hfz7_5, hfz7_6⟩ := cells_7 BK289.out
    obtain ⟨Ao8, co8, eo8⟩ := Kd.V_slice HO_290005.out
    subst eo8
    obtain ⟨Ao9, co9, eo9⟩ := Kd.V_slice HO_290006.out
    subst eo9
    go_wp2_with (first | ((with_reducible refine gate_dst (N := 10) rfl ?_); refine Kd.N_lit k25 _ 25 ?hg (N' := 10) ?hd (xs := ([(⟨x290000_1, x290001_1, x290002_1, x290003_1, x290004_1, x290005_1, x290006_1⟩ : S25)] : List (S25))) (inner := [.int .i64 x290000_1, .string x290001_1, .int .i64 x290002_1, .int .i64 x290003_1, .string x290004_1, .slice Ao8 x290005_1.length co8, .slice Ao9 x290006_1.length co9]) (ok := (fun k_ => ((P0_5_ k_ ∨ P0_6_ k_) ∨ w.heap.size ≤ k_) ∧ k_ ≠ gb289 ∧ k_ ≠ gb290)) (okp := (fun k_ => ((P0_5_ k_ ∨ P0_6_ k_) ∨ w.heap.size ≤ k_) ∧ k_ ≠ gb289 ∧ k_ ≠ gb290)) ?hr ?hp (fun _ hk => hk) ((show ∀ k_, wr.heap.size ≤ k_ → (fun k_ => ((P0_5_ k_ ∨ P0_6_ k_) ∨ w.heap.size ≤ k_) ∧ k_ ≠ gb289 ∧ k_ ≠ gb290) k_ from fun k_ hk => ⟨(.inr (Nat.le_trans (below_size mZ) hk)), fK BK289 hk, fK BK290 hk⟩) _ (Nat.le_refl _)) (Below.refl _ _) (Nat.le_refl _) (by simp) ?_; (case hd => rfl); (case hg => rfl); (case hr => first | (go_simp; done) | (go_simp; rfl)); (case hp => exact (Reps.c7 (zF25 HO_290005 HO_290006) (Reps.none _ _))); intro v292 w10 ho11 hb hg_ hnew_; clear hg_ hnew_; (first | rw [← Ny291.out] at ho11 | (simp only [Int.reduceToNat] at ho11; rw [← Ny291.out] at ho11)); replace HO_290005 := zM (Kd.V_elder' (mV HO_290005.out) (by first | exact Kd.N_base ho11 | exact Kd.N_base (Kd.R_N ho11)) hb); replace HO_290006 := zM (Kd.V_elder' (mV HO_290006.out) (by first | exact Kd.N_base ho11 | exact Kd.N_base (Kd.R_N ho11)) hb); have HO293 := zM (Kd.N_lower ho11 (below_size mZ)); replace BK289 := zK BK289 hb; replace BK290 := zK BK290 hb; replace HB := zM (below_step mZ hb); clear hb ho11; obtain ⟨Ao12, co12, eo12⟩ := Kd.N_slice HO293.out; subst eo12; obtain ⟨hcz13_0, hcz13_1, hcz13_2, hcz13_3, hcz13_4, hcz13_5, hcz13_6, hfz13_0, hfz13_1, hfz13_2, hfz13_3, hfz13_4, hfz13_5, hfz13_6⟩ := cells_7 BK289.out))
    go_roundg k1
    case measure => have := HK1.out; omega
    case rel => exact ⟨(wrap64 (x1_1 - 1)), (3), ((⟨#[]⟩ : ByteArray)), (0), (0), ((⟨#[]⟩ : ByteArray)), (([] : List ByteArray)), (y291), (.slice none 0 0), (.slice Ao12 y291.length co12), ya, H', ⟨by have := HK1.out; omega⟩, ⟨by first | exact Kd.V_nil _ _ _ _ _ | (exact (by first | exact Kd.R_nil _ _ _ _ _ | exact Kd.N_nil _ _ _ _ _ | exact Kd.V_nil _ _ _ _ _ | exact Kd.Q_nil _ _ _ _ _ | exact Kd.S_nil _ _ _ _ _))⟩, ⟨Kd.N_V (by (with_reducible repeat (first | apply Kd.N_alloc | apply Kd.N_drewN | apply Kd.N_drew)); exact Kd.N_mono (zgN (Kd.N_mono HO293.out (fun k_ hk => (⟨hk, hk.2.1⟩ : _ ∧ k_ ≠ gb289)))) (fun _ hk => ⟨hk.1.1, ⟨hk.1.2.1, hk.1.2.2⟩⟩))⟩, ⟨by (with_reducible repeat (first | refine blk_drewN ?_ _ | refine blk_drew ?_ | refine blk_alloc ?_ _)); apply puts_7; (with_reducible repeat (first | refine blk_drewN ?_ _ | refine blk_drew ?_ | refine blk_alloc ?_ _)); exact BK289.out⟩, ⟨by (with_reducible repeat (first | refine blk_drewN ?_ _ | refine blk_drew ?_ | refine blk_alloc ?_ _)); refine blk_far ?_ NB290_289.out _; refine blk_far ?_ NB290_289.out _; refine blk_far ?_ NB290_289.out _; refine blk_far ?_ NB290_289.out _; refine blk_far ?_ NB290_289.out _; refine blk_far ?_ NB290_289.out _; refine blk_far ?_ NB290_289.out _; (with_reducible repeat (first | refine blk_drewN ?_ _ | refine blk_drew ?_ | refine blk_alloc ?_ _)); exact BK290.out⟩, ⟨mZ⟩⟩
   rw [if_neg c5] at H
   have c5b0 : decide (0 < x1_1) = false := decide_eq_false c5
   clear c5
   simp only [Option.some.injEq, Prod.mk.injEq] at H
   obtain ⟨rfl, rfl, rfl, rfl, rfl, rfl, rfl⟩ := H
   have hnb14 := NB289_290.out
   have hnc14 := NB290_289.out
   obtain ⟨hcz15_0, hcz15_1, hcz15_2, hcz15_3, hcz15_4, hcz15_5, hcz15_6, hfz15_0, hfz15_1, hfz15_2, hfz15_3, hfz15_4, hfz15_5, hfz15_6⟩ := cells_7 BK289.out
   obtain ⟨hcz16_0, hcz16_1, hcz16_2, hcz16_3, hcz16_4, hcz16_5, hcz16_6, hfz16_0, hfz16_1, hfz16_2, hfz16_3, hfz16_4, hfz16_5, hfz16_6⟩ := cells_7 BK290.out
   obtain ⟨Ao17, co17, eo17⟩ := Kd.V_slice HO_290005.out
   subst eo17
   obtain ⟨Ao18, co18, eo18⟩ := Kd.V_slice HO_290006.out
   subst eo18
   go_wp2
   refine bodyPost_ret (results_cell_row rfl _ _ gb290 25 #[.int .i64 x290000_1, .string x290001_1, .int .i64 x290002_1, .int .i64 x290003_1, .string x290004_1, .slice Ao17 x290005_1.length co17, .slice Ao18 x290006_1.length co18] (0, 0) _ rfl (by (with_reducible repeat (first | refine blk_drewN ?_ _ | refine blk_drew ?_ | refine blk_alloc ?_ _)); apply puts_7; (with_reducible repeat (first | refine blk_drewN ?_ _ | refine blk_drew ?_ | refine blk_alloc ?_ _)); exact BK290.out) Try.underlying25 rfl (by kernel_rfl)) rfl ?_
   exact ⟨_, _, by first | rfl | (simp [errW_none, errW_some] <;> rfl) | (simp [*, errW_none, errW_some] <;> rfl), by (with_reducible repeat (first | apply Kd.V_alloc | apply Kd.V_drewN | apply Kd.V_drew)); exact Kd.V_mono (zgV (Kd.V_mono HO_290005.out (fun k_ hk => (⟨hk, hk.2.2⟩ : _ ∧ k_ ≠ gb290)))) (fun _ hk => hk.1.1), by (with_reducible repeat (first | apply Kd.V_alloc | apply Kd.V_drewN | apply Kd.V_drew)); exact Kd.V_mono (zgV (Kd.V_mono HO_290006.out (fun k_ hk => (⟨hk, hk.2.2⟩ : _ ∧ k_ ≠ gb290)))) (fun _ hk => hk.1.1), mZ⟩

/-! ### columbariumlaw13_null: function 18 -/
def columbariumlaw13_null.f (a0 : ByteArray) : Option (Int × ByteArray × Int × Int × ByteArray × List ByteArray × (List (S25))) := some (9, a0, 0, 0, (⟨#[]⟩ : ByteArray), ([] : List ByteArray), ([] : List (S25)))
set_option maxHeartbeats 8000000 in
set_option maxRecDepth 100000 in
theorem columbariumlaw13_null.calls (a0 : ByteArray) (r1 : Int) (r2 : ByteArray) (r3 : Int) (r4 : Int) (r5 : ByteArray) (r6 : List ByteArray) (r7 : List (S25)) (w : World) (h : columbariumlaw13_null.f a0 = some (r1, r2, r3, r4, r5, r6, r7)) :
  Calls Try.prog 18 #[.string a0] w fun e w' => ∃ v5_ v6_ : Value, e = .returned (.agg #[.int .i64 r1, .string r2, .int .i64 r3, .int .i64 r4, .string r5, v5_, v6_]) ∧ Kd.R Kd.string 9 w' w.heap.size (fun _ => True) v5_ r6 ∧ Kd.R k25 25 w' w.heap.size (fun k_ => some k_ ≠ (v5_ : Value).ownBlock) v6_ r7 ∧ Below w.heap.size w w' := by
 have hu25 := Try.underlying25
 have HB := zM (Below.refl w.heap.size w)
 have H : (some (9, a0, 0, 0, (⟨#[]⟩ : ByteArray), ([] : List ByteArray), ([] : List (S25)))) = some (r1, r2, r3, r4, r5, r6, r7) := h
 clear h
 simp only [Option.some.injEq, Prod.mk.injEq] at H
 obtain ⟨rfl, rfl, rfl, rfl, rfl, rfl, rfl⟩ := H
 go_enter Try.func18, Try.ntmps18
 go_wp2_with (first | ((with_reducible refine gate_dst (N := 2) rfl ?_); refine box_event ?hg (N := 2) ?hd (cs := #[.int .i64 0, .string (⟨#[]⟩ : ByteArray), .int .i64 0, .int .i64 0, .string (⟨#[]⟩ : ByteArray), .slice none 0 0, .slice none 0 0]) (t := 25) ?hr ?_; (case hd => rfl); (case hg => rfl); (case hr => first | (go_simp; done) | (go_simp; rfl)); intro gb294 hg w2 hbox hb; have BK294 := zM (hbox); have GW294 := zM ((by rw [hg]; exact (below_size (mB HB.out)) : w.heap.size ≤ gb294)); replace HB := zM (below_step (mB HB.out) hb); have GE294 := GW294; clear hb hbox hg; obtain ⟨hcz3_0, hcz3_1, hcz3_2, hcz3_3, hcz3_4, hcz3_5, hcz3_6, hfz3_0, hfz3_1, hfz3_2, hfz3_3, hfz3_4, hfz3_5, hfz3_6⟩ := cells_7 BK294.out))
 refine bodyPost_ret (results_cell_row rfl _ _ gb294 25 #[.int .i64 9, .string a0, .int .i64 0, .int .i64 0, .string (⟨#[]⟩ : ByteArray), .slice none 0 0, .slice none 0 0] (0, 0) _ rfl (by (with_reducible repeat (first | refine blk_drewN ?_ _ | refine blk_drew ?_ | refine blk_alloc ?_ _)); apply puts_7; (with_reducible repeat (first | refine blk_drewN ?_ _ | refine blk_drew ?_ | refine blk_alloc ?_ _)); exact BK294.out) Try.underlying25 rfl (by kernel_rfl)) rfl ?_
 exact ⟨_, _, by first | rfl | (simp [errW_none, errW_some] <;> rfl) | (simp [*, errW_none, errW_some] <;> rfl), by first | exact Kd.R_nil _ _ _ _ _ | exact Kd.N_nil _ _ _ _ _ | exact Kd.V_nil _ _ _ _ _ | exact Kd.Q_nil _ _ _ _ _ | exact Kd.S_nil _ _ _ _ _, by first | exact Kd.R_nil _ _ _ _ _ | exact Kd.N_nil _ _ _ _ _ | exact Kd.V_nil _ _ _ _ _ | exact Kd.Q_nil _ _ _ _ _ | exact Kd.S_nil _ _ _ _ _, mZ⟩

/-! ### columbariumkeep_Everything: function 29 -/
def columbariumkeep_Everything.f  : Option (Int × ByteArray × Int × Int × ByteArray × List ByteArray × (List (S25))) := some (1, (⟨#[]⟩ : ByteArray), 0, 0, (⟨#[]⟩ : ByteArray), ([] : List ByteArray), ([] : List (S25)))
set_option maxHeartbeats 8000000 in
set_option maxRecDepth 100000 in
theorem columbariumkeep_Everything.calls  (r1 : Int) (r2 : ByteArray) (r3 : Int) (r4 : Int) (r5 : ByteArray) (r6 : List ByteArray) (r7 : List (S25)) (w : World) (h : columbariumkeep_Everything.f  = some (r1, r2, r3, r4, r5, r6, r7)) :
  Calls Try.prog 29 #[] w fun e w' => ∃ v5_ v6_ : Value, e = .returned (.agg #[.int .i64 r1, .string r2, .int .i64 r3, .int .i64 r4, .string r5, v5_, v6_]) ∧ Kd.R Kd.string 9 w' w.heap.size (fun _ => True) v5_ r6 ∧ Kd.R k25 25 w' w.heap.size (fun k_ => some k_ ≠ (v5_ : Value).ownBlock) v6_ r7 ∧ Below w.heap.size w w' := by
 have hu25 := Try.underlying25
 have HB := zM (Below.refl w.heap.size w)
 have H : (some (1, (⟨#[]⟩ : ByteArray), 0, 0, (⟨#[]⟩ : ByteArray), ([] : List ByteArray), ([] : List (S25)))) = some (r1, r2, r3, r4, r5, r6, r7) := h
 clear h
 simp only [Option.some.injEq, Prod.mk.injEq] at H
 obtain ⟨rfl, rfl, rfl, rfl, rfl, rfl, rfl⟩ := H
 go_enter Try.func29, Try.ntmps29
 go_wp2_with (first | ((with_reducible refine gate_dst (N := 0) rfl ?_); refine box_event ?hg (N := 0) ?hd (cs := #[.int .i64 0, .string (⟨#[]⟩ : ByteArray), .int .i64 0, .int .i64 0, .string (⟨#[]⟩ : ByteArray), .slice none 0 0, .slice none 0 0]) (t := 25) ?hr ?_; (case hd => rfl); (case hg => rfl); (case hr => first | (go_simp; done) | (go_simp; rfl)); intro gb295 hg w1 hbox hb; have BK295 := zM (hbox); have GW295 := zM ((by rw [hg]; exact (below_size (mB HB.out)) : w.heap.size ≤ gb295)); replace HB := zM (below_step (mB HB.out) hb); have GE295 := GW295; clear hb hbox hg; obtain ⟨hcz2_0, hcz2_1, hcz2_2, hcz2_3, hcz2_4, hcz2_5, hcz2_6, hfz2_0, hfz2_1, hfz2_2, hfz2_3, hfz2_4, hfz2_5, hfz2_6⟩ := cells_7 BK295.out))
 refine bodyPost_ret (results_cell_row rfl _ _ gb295 25 #[.int .i64 1, .string (⟨#[]⟩ : ByteArray), .int .i64 0, .int .i64 0, .string (⟨#[]⟩ : ByteArray), .slice none 0 0, .slice none 0 0] (0, 0) _ rfl (by (with_reducible repeat (first | refine blk_drewN ?_ _ | refine blk_drew ?_ | refine blk_alloc ?_ _)); apply puts_7; (with_reducible repeat (first | refine blk_drewN ?_ _ | refine blk_drew ?_ | refine blk_alloc ?_ _)); exact BK295.out) Try.underlying25 rfl (by kernel_rfl)) rfl ?_
 exact ⟨_, _, by first | rfl | (simp [errW_none, errW_some] <;> rfl) | (simp [*, errW_none, errW_some] <;> rfl), by first | exact Kd.R_nil _ _ _ _ _ | exact Kd.N_nil _ _ _ _ _ | exact Kd.V_nil _ _ _ _ _ | exact Kd.Q_nil _ _ _ _ _ | exact Kd.S_nil _ _ _ _ _, by first | exact Kd.R_nil _ _ _ _ _ | exact Kd.N_nil _ _ _ _ _ | exact Kd.V_nil _ _ _ _ _ | exact Kd.Q_nil _ _ _ _ _ | exact Kd.S_nil _ _ _ _ _, mZ⟩

end Go.Proofs.Ytalpcnomfebdiaa.QPredRules
