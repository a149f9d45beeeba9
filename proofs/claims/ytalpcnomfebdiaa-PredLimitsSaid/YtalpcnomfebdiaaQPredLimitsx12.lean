-- Written by a program of this session (wip/myprint.py): the machine's side of a law
import Derived.Test.YtalpcnomfebdiaaQPredLimitsx0
import Derived.Test.YtalpcnomfebdiaaQPredLimitsx11
namespace Go.Proofs.Ytalpcnomfebdiaa.QPredLimits
open Go.RowKit Go.Proofs.YtalpcnomfebdiaaW.PrintWords Go.Proofs.YtalpcnomfebdiaaW.PrintLast Go.Proofs.YtalpcnomfebdiaaW.PrintMore
attribute [local go_sem] max2_int min2_int max_two min_two max_three min_three max_four min_four   -- for this text's walks alone
set_option linter.unusedVariables false
set_option linter.unusedSimpArgs false

/-! ### pred_put: function 35 -/
mutual
def pred_put.j1 : Nat → List Int → Int → ByteArray → Int → Int → ByteArray → List ByteArray → List (S25) → Option (List Int)
 | 0, _, _, _, _, _, _, _, _ => none
 | k + 1, x0, x400000, x400001, x400002, x400003, x400004, x400005, x400006 => if x400000 = 4 then (pred_put.j2 k x0 x400000 (x400000 == 4) x400000 x400001 x400002 x400003 x400004 x400005 x400006) else (pred_put.j2 k x0 x400000 (x400000 == 5) x400000 x400001 x400002 x400003 x400004 x400005 x400006)
def pred_put.j5 : Nat → List Int → Int → ByteArray → Int → Int → ByteArray → List ByteArray → List (S25) → Option (List Int)
 | 0, _, _, _, _, _, _, _, _ => none
 | k + 1, x0, x400000, x400001, x400002, x400003, x400004, x400005, x400006 => pred_put.l1 k x0 x400006 (x400006.length : Int) 0
def pred_put.l1 : Nat → List Int → List (S25) → Int → Int → Option (List Int)
 | 0, _, _, _, _ => none
 | k + 1, x0, x79, x80, x81 => if x81 < x80 then (if 0 ≤ x81 then (if x81 < (x79.length : Int) then ((pred_put.f k x0 ((rd_T25 x79 x81).f0) ((rd_T25 x79 x81).f1) ((rd_T25 x79 x81).f2) ((rd_T25 x79 x81).f3) ((rd_T25 x79 x81).f4) ((rd_T25 x79 x81).f5) ((rd_T25 x79 x81).f6)).bind fun t433 => (pred_put.l1 k t433 x79 x80 (wrap64 (x81 + 1)))) else (none)) else (none)) else (some x0)
def pred_put.j2 : Nat → List Int → Int → Bool → Int → ByteArray → Int → Int → ByteArray → List ByteArray → List (S25) → Option (List Int)
 | 0, _, _, _, _, _, _, _, _, _, _ => none
 | k + 1, x0, x43, x44, x400000, x400001, x400002, x400003, x400004, x400005, x400006 => if x44 = true then ((varint_Zig.f x400002).bind fun t417 => ((varint_Put.f k x0 t417).bind fun t418 => (pred_put.j5 k t418 x400000 x400001 x400002 x400003 x400004 x400005 x400006))) else (if x43 = 6 then (pred_put.j3 k x0 x43 (x43 == 6) x400000 x400001 x400002 x400003 x400004 x400005 x400006) else (pred_put.j3 k x0 x43 (x43 == 8) x400000 x400001 x400002 x400003 x400004 x400005 x400006))
def pred_put.j3 : Nat → List Int → Int → Bool → Int → ByteArray → Int → Int → ByteArray → List ByteArray → List (S25) → Option (List Int)
 | 0, _, _, _, _, _, _, _, _, _, _ => none
 | k + 1, x0, x43, x52, x400000, x400001, x400002, x400003, x400004, x400005, x400006 => if x52 = true then ((varint_PutText.f k x0 x400004).bind fun t421 => (pred_put.j5 k t421 x400000 x400001 x400002 x400003 x400004 x400005 x400006)) else (if x43 = 7 then ((varint_Put.f k x0 (IntKind.u64.wrap ((x400005.length : Int)))).bind fun t424 => (pred_put.l0 k t424 x400005 (x400005.length : Int) 0 x400000 x400001 x400002 x400003 x400004 x400005 x400006)) else (pred_put.j5 k x0 x400000 x400001 x400002 x400003 x400004 x400005 x400006))
def pred_put.l0 : Nat → List Int → List ByteArray → Int → Int → Int → ByteArray → Int → Int → ByteArray → List ByteArray → List (S25) → Option (List Int)
 | 0, _, _, _, _, _, _, _, _, _, _, _ => none
 | k + 1, x0, x68, x69, x70, x400000, x400001, x400002, x400003, x400004, x400005, x400006 => if x70 < x69 then (if 0 ≤ x70 then (if x70 < (x68.length : Int) then ((varint_PutText.f k x0 (rdOf ByteArray.empty x68 x70)).bind fun t428 => (pred_put.l0 k t428 x68 x69 (wrap64 (x70 + 1)) x400000 x400001 x400002 x400003 x400004 x400005 x400006)) else (none)) else (none)) else (pred_put.j5 k x0 x400000 x400001 x400002 x400003 x400004 x400005 x400006)
def pred_put.j0 : Nat → List Int → Int → Bool → Int → ByteArray → Int → Int → ByteArray → List ByteArray → List (S25) → Option (List Int)
 | 0, _, _, _, _, _, _, _, _, _, _ => none
 | k + 1, x0, x15, x20, x400000, x400001, x400002, x400003, x400004, x400005, x400006 => if x20 = true then ((varint_Put.f k x0 (IntKind.u64.wrap ((x400006.length : Int)))).bind fun t403 => (pred_put.j1 k t403 x400000 x400001 x400002 x400003 x400004 x400005 x400006)) else (if x15 = 3 then (pred_put.j1 k x0 x400000 x400001 x400002 x400003 x400004 x400005 x400006) else (if x15 = 10 then ((varint_Zig.f x400002).bind fun t406 => ((varint_Put.f k x0 t406).bind fun t407 => ((varint_Zig.f x400003).bind fun t410 => ((varint_Put.f k t407 t410).bind fun t411 => (some t411))))) else ((varint_PutText.f k x0 x400001).bind fun t414 => (pred_put.j1 k t414 x400000 x400001 x400002 x400003 x400004 x400005 x400006))))
def pred_put.f : Nat → List Int → Int → ByteArray → Int → Int → ByteArray → List ByteArray → List (S25) → Option (List Int)
 | 0, _, _, _, _, _, _, _, _ => none
 | k + 1, l0, a1_0, a1_1, a1_2, a1_3, a1_4, l1_5, l1_6 => (varint_Put.f k l0 (IntKind.u64.wrap (a1_0))).bind fun t400 => (if a1_0 = 1 then (pred_put.j0 k t400 a1_0 (a1_0 == 1) a1_0 a1_1 a1_2 a1_3 a1_4 l1_5 l1_6) else (pred_put.j0 k t400 a1_0 (a1_0 == 2) a1_0 a1_1 a1_2 a1_3 a1_4 l1_5 l1_6))
end
theorem pred_put.mono_l : ∀ k, (∀ y0 y1 y2 y3 y4 y5 y6 y7, LeO (pred_put.f k y0 y1 y2 y3 y4 y5 y6 y7) (pred_put.f (k + 1) y0 y1 y2 y3 y4 y5 y6 y7)) ∧ (∀ y0 y1 y2 y3 y4 y5 y6 y7, LeO (pred_put.j1 k y0 y1 y2 y3 y4 y5 y6 y7) (pred_put.j1 (k + 1) y0 y1 y2 y3 y4 y5 y6 y7)) ∧ (∀ y0 y1 y2 y3 y4 y5 y6 y7, LeO (pred_put.j5 k y0 y1 y2 y3 y4 y5 y6 y7) (pred_put.j5 (k + 1) y0 y1 y2 y3 y4 y5 y6 y7)) ∧ (∀ y0 y1 y2 y3, LeO (pred_put.l1 k y0 y1 y2 y3) (pred_put.l1 (k + 1) y0 y1 y2 y3)) ∧ (∀ y0 y1 y2 y3 y4 y5 y6 y7 y8 y9, LeO (pred_put.j2 k y0 y1 y2 y3 y4 y5 y6 y7 y8 y9) (pred_put.j2 (k + 1) y0 y1 y2 y3 y4 y5 y6 y7 y8 y9)) ∧ (∀ y0 y1 y2 y3 y4 y5 y6 y7 y8 y9, LeO (pred_put.j3 k y0 y1 y2 y3 y4 y5 y6 y7 y8 y9) (pred_put.j3 (k + 1) y0 y1 y2 y3 y4 y5 y6 y7 y8 y9)) ∧ (∀ y0 y1 y2 y3 y4 y5 y6 y7 y8 y9 y10, LeO (pred_put.l0 k y0 y1 y2 y3 y4 y5 y6 y7 y8 y9 y10) (pred_put.l0 (k + 1) y0 y1 y2 y3 y4 y5 y6 y7 y8 y9 y10)) ∧ (∀ y0 y1 y2 y3 y4 y5 y6 y7 y8 y9, LeO (pred_put.j0 k y0 y1 y2 y3 y4 y5 y6 y7 y8 y9) (pred_put.j0 (k + 1) y0 y1 y2 y3 y4 y5 y6 y7 y8 y9))
 | 0 => ⟨fun _ _ _ _ _ _ _ _ r h => by simp [pred_put.f] at h, fun _ _ _ _ _ _ _ _ r h => by simp [pred_put.j1] at h, fun _ _ _ _ _ _ _ _ r h => by simp [pred_put.j5] at h, fun _ _ _ _ r h => by simp [pred_put.l1] at h, fun _ _ _ _ _ _ _ _ _ _ r h => by simp [pred_put.j2] at h, fun _ _ _ _ _ _ _ _ _ _ r h => by simp [pred_put.j3] at h, fun _ _ _ _ _ _ _ _ _ _ _ r h => by simp [pred_put.l0] at h, fun _ _ _ _ _ _ _ _ _ _ r h => by simp [pred_put.j0] at h⟩
 | k + 1 => by
  obtain ⟨ih0, ih1, ih2, ih3, ih4, ih5, ih6, ih7⟩ := pred_put.mono_l k
  refine ⟨?_, ?_, ?_, ?_, ?_, ?_, ?_, ?_⟩
  ·intro y0 y1 y2 y3 y4 y5 y6 y7
   unfold pred_put.f
   repeat' first
   | (with_reducible exact ih0 _ _ _ _ _ _ _ _)
   | (with_reducible exact ih1 _ _ _ _ _ _ _ _)
   | (with_reducible exact ih2 _ _ _ _ _ _ _ _)
   | (with_reducible exact ih3 _ _ _ _)
   | (with_reducible exact ih4 _ _ _ _ _ _ _ _ _ _)
   | (with_reducible exact ih5 _ _ _ _ _ _ _ _ _ _)
   | (with_reducible exact ih6 _ _ _ _ _ _ _ _ _ _ _)
   | (with_reducible exact ih7 _ _ _ _ _ _ _ _ _ _)
   | (with_reducible exact varint_Put.mono _ _ _)
   | (with_reducible exact varint_PutText.mono _ _ _)
   | (with_reducible exact LeO.refl _)
   | (with_reducible exact LeO.none _)
   | (with_reducible refine LeO.ite ?_ ?_)
   | (with_reducible refine LeO.bind ?_ (fun _ => ?_))
   | exact ih0 _ _ _ _ _ _ _ _
   | exact ih1 _ _ _ _ _ _ _ _
   | exact ih2 _ _ _ _ _ _ _ _
   | exact ih3 _ _ _ _
   | exact ih4 _ _ _ _ _ _ _ _ _ _
   | exact ih5 _ _ _ _ _ _ _ _ _ _
   | exact ih6 _ _ _ _ _ _ _ _ _ _ _
   | exact ih7 _ _ _ _ _ _ _ _ _ _
   | exact varint_Put.mono _ _ _
   | exact varint_PutText.mono _ _ _
   | exact LeO.none _
   | refine LeO.ite ?_ ?_
   | refine LeO.bind ?_ (fun _ => ?_)
  ·intro y0 y1 y2 y3 y4 y5 y6 y7
   unfold pred_put.j1
   repeat' first
   | (with_reducible exact ih0 _ _ _ _ _ _ _ _)
   | (with_reducible exact ih1 _ _ _ _ _ _ _ _)
   | (with_reducible exact ih2 _ _ _ _ _ _ _ _)
   | (with_reducible exact ih3 _ _ _ _)
   | (with_reducible exact ih4 _ _ _ _ _ _ _ _ _ _)
   | (with_reducible exact ih5 _ _ _ _ _ _ _ _ _ _)
   | (with_reducible exact ih6 _ _ _ _ _ _ _ _ _ _ _)
   | (with_reducible exact ih7 _ _ _ _ _ _ _ _ _ _)
   | (with_reducible exact varint_Put.mono _ _ _)
   | (with_reducible exact varint_PutText.mono _ _ _)
   | (with_reducible exact LeO.refl _)
   | (with_reducible exact LeO.none _)
   | (with_reducible refine LeO.ite ?_ ?_)
   | (with_reducible refine LeO.bind ?_ (fun _ => ?_))
   | exact ih0 _ _ _ _ _ _ _ _
   | exact ih1 _ _ _ _ _ _ _ _
   | exact ih2 _ _ _ _ _ _ _ _
   | exact ih3 _ _ _ _
   | exact ih4 _ _ _ _ _ _ _ _ _ _
   | exact ih5 _ _ _ _ _ _ _ _ _ _
   | exact ih6 _ _ _ _ _ _ _ _ _ _ _
   | exact ih7 _ _ _ _ _ _ _ _ _ _
   | exact varint_Put.mono _ _ _
   | exact varint_PutText.mono _ _ _
   | exact LeO.none _
   | refine LeO.ite ?_ ?_
   | refine LeO.bind ?_ (fun _ => ?_)
  ·intro y0 y1 y2 y3 y4 y5 y6 y7
   unfold pred_put.j5
   repeat' first
   | (with_reducible exact ih0 _ _ _ _ _ _ _ _)
   | (with_reducible exact ih1 _ _ _ _ _ _ _ _)
   | (with_reducible exact ih2 _ _ _ _ _ _ _ _)
   | (with_reducible exact ih3 _ _ _ _)
   | (with_reducible exact ih4 _ _ _ _ _ _ _ _ _ _)
   | (with_reducible exact ih5 _ _ _ _ _ _ _ _ _ _)
   | (with_reducible exact ih6 _ _ _ _ _ _ _ _ _ _ _)
   | (with_reducible exact ih7 _ _ _ _ _ _ _ _ _ _)
   | (with_reducible exact varint_Put.mono _ _ _)
   | (with_reducible exact varint_PutText.mono _ _ _)
   | (with_reducible exact LeO.refl _)
   | (with_reducible exact LeO.none _)
   | (with_reducible refine LeO.ite ?_ ?_)
   | (with_reducible refine LeO.bind ?_ (fun _ => ?_))
   | exact ih0 _ _ _ _ _ _ _ _
   | exact ih1 _ _ _ _ _ _ _ _
   | exact ih2 _ _ _ _ _ _ _ _
   | exact ih3 _ _ _ _
   | exact ih4 _ _ _ _ _ _ _ _ _ _
   | exact ih5 _ _ _ _ _ _ _ _ _ _
   | exact ih6 _ _ _ _ _ _ _ _ _ _ _
   | exact ih7 _ _ _ _ _ _ _ _ _ _
   | exact varint_Put.mono _ _ _
   | exact varint_PutText.mono _ _ _
   | exact LeO.none _
   | refine LeO.ite ?_ ?_
   | refine LeO.bind ?_ (fun _ => ?_)
  ·intro y0 y1 y2 y3
   unfold pred_put.l1
   repeat' first
   | (with_reducible exact ih0 _ _ _ _ _ _ _ _)
   | (with_reducible exact ih1 _ _ _ _ _ _ _ _)
   | (with_reducible exact ih2 _ _ _ _ _ _ _ _)
   | (with_reducible exact ih3 _ _ _ _)
   | (with_reducible exact ih4 _ _ _ _ _ _ _ _ _ _)
   | (with_reducible exact ih5 _ _ _ _ _ _ _ _ _ _)
   | (with_reducible exact ih6 _ _ _ _ _ _ _ _ _ _ _)
   | (with_reducible exact ih7 _ _ _ _ _ _ _ _ _ _)
   | (with_reducible exact varint_Put.mono _ _ _)
   | (with_reducible exact varint_PutText.mono _ _ _)
   | (with_reducible exact LeO.refl _)
   | (with_reducible exact LeO.none _)
   | (with_reducible refine LeO.ite ?_ ?_)
   | (with_reducible refine LeO.bind ?_ (fun _ => ?_))
   | exact ih0 _ _ _ _ _ _ _ _
   | exact ih1 _ _ _ _ _ _ _ _
   | exact ih2 _ _ _ _ _ _ _ _
   | exact ih3 _ _ _ _
   | exact ih4 _ _ _ _ _ _ _ _ _ _
   | exact ih5 _ _ _ _ _ _ _ _ _ _
   | exact ih6 _ _ _ _ _ _ _ _ _ _ _
   | exact ih7 _ _ _ _ _ _ _ _ _ _
   | exact varint_Put.mono _ _ _
   | exact varint_PutText.mono _ _ _
   | exact LeO.none _
   | refine LeO.ite ?_ ?_
   | refine LeO.bind ?_ (fun _ => ?_)
  ·intro y0 y1 y2 y3 y4 y5 y6 y7 y8 y9
   unfold pred_put.j2
   repeat' first
   | (with_reducible exact ih0 _ _ _ _ _ _ _ _)
   | (with_reducible exact ih1 _ _ _ _ _ _ _ _)
   | (with_reducible exact ih2 _ _ _ _ _ _ _ _)
   | (with_reducible exact ih3 _ _ _ _)
   | (with_reducible exact ih4 _ _ _ _ _ _ _ _ _ _)
   | (with_reducible exact ih5 _ _ _ _ _ _ _ _ _ _)
   | (with_reducible exact ih6 _ _ _ _ _ _ _ _ _ _ _)
   | (with_reducible exact ih7 _ _ _ _ _ _ _ _ _ _)
   | (with_reducible exact varint_Put.mono _ _ _)
   | (with_reducible exact varint_PutText.mono _ _ _)
   | (with_reducible exact LeO.refl _)
   | (with_reducible exact LeO.none _)
   | (with_reducible refine LeO.ite ?_ ?_)
   | (with_reducible refine LeO.bind ?_ (fun _ => ?_))
   | exact ih0 _ _ _ _ _ _ _ _
   | exact ih1 _ _ _ _ _ _ _ _
   | exact ih2 _ _ _ _ _ _ _ _
   | exact ih3 _ _ _ _
   | exact ih4 _ _ _ _ _ _ _ _ _ _
   | exact ih5 _ _ _ _ _ _ _ _ _ _
   | exact ih6 _ _ _ _ _ _ _ _ _ _ _
   | exact ih7 _ _ _ _ _ _ _ _ _ _
   | exact varint_Put.mono _ _ _
   | exact varint_PutText.mono _ _ _
   | exact LeO.none _
   | refine LeO.ite ?_ ?_
   | refine LeO.bind ?_ (fun _ => ?_)
  ·intro y0 y1 y2 y3 y4 y5 y6 y7 y8 y9
   unfold pred_put.j3
   repeat' first
   | (with_reducible exact ih0 _ _ _ _ _ _ _ _)
   | (with_reducible exact ih1 _ _ _ _ _ _ _ _)
   | (with_reducible exact ih2 _ _ _ _ _ _ _ _)
   | (with_reducible exact ih3 _ _ _ _)
   | (with_reducible exact ih4 _ _ _ _ _ _ _ _ _ _)
   | (with_reducible exact ih5 _ _ _ _ _ _ _ _ _ _)
   | (with_reducible exact ih6 _ _ _ _ _ _ _ _ _ _ _)
   | (with_reducible exact ih7 _ _ _ _ _ _ _ _ _ _)
   | (with_reducible exact varint_Put.mono _ _ _)
   | (with_reducible exact varint_PutText.mono _ _ _)
   | (with_reducible exact LeO.refl _)
   | (with_reducible exact LeO.none _)
   | (with_reducible refine LeO.ite ?_ ?_)
   | (with_reducible refine LeO.bind ?_ (fun _ => ?_))
   | exact ih0 _ _ _ _ _ _ _ _
   | exact ih1 _ _ _ _ _ _ _ _
   | exact ih2 _ _ _ _ _ _ _ _
   | exact ih3 _ _ _ _
   | exact ih4 _ _ _ _ _ _ _ _ _ _
   | exact ih5 _ _ _ _ _ _ _ _ _ _
   | exact ih6 _ _ _ _ _ _ _ _ _ _ _
   | exact ih7 _ _ _ _ _ _ _ _ _ _
   | exact varint_Put.mono _ _ _
   | exact varint_PutText.mono _ _ _
   | exact LeO.none _
   | refine LeO.ite ?_ ?_
   | refine LeO.bind ?_ (fun _ => ?_)
  ·intro y0 y1 y2 y3 y4 y5 y6 y7 y8 y9 y10
   unfold pred_put.l0
   repeat' first
   | (with_reducible exact ih0 _ _ _ _ _ _ _ _)
   | (with_reducible exact ih1 _ _ _ _ _ _ _ _)
   | (with_reducible exact ih2 _ _ _ _ _ _ _ _)
   | (with_reducible exact ih3 _ _ _ _)
   | (with_reducible exact ih4 _ _ _ _ _ _ _ _ _ _)
   | (with_reducible exact ih5 _ _ _ _ _ _ _ _ _ _)
   | (with_reducible exact ih6 _ _ _ _ _ _ _ _ _ _ _)
   | (with_reducible exact ih7 _ _ _ _ _ _ _ _ _ _)
   | (with_reducible exact varint_Put.mono _ _ _)
   | (with_reducible exact varint_PutText.mono _ _ _)
   | (with_reducible exact LeO.refl _)
   | (with_reducible exact LeO.none _)
   | (with_reducible refine LeO.ite ?_ ?_)
   | (with_reducible refine LeO.bind ?_ (fun _ => ?_))
   | exact ih0 _ _ _ _ _ _ _ _
   | exact ih1 _ _ _ _ _ _ _ _
   | exact ih2 _ _ _ _ _ _ _ _
   | exact ih3 _ _ _ _
   | exact ih4 _ _ _ _ _ _ _ _ _ _
   | exact ih5 _ _ _ _ _ _ _ _ _ _
   | exact ih6 _ _ _ _ _ _ _ _ _ _ _
   | exact ih7 _ _ _ _ _ _ _ _ _ _
   | exact varint_Put.mono _ _ _
   | exact varint_PutText.mono _ _ _
   | exact LeO.none _
   | refine LeO.ite ?_ ?_
   | refine LeO.bind ?_ (fun _ => ?_)
  ·intro y0 y1 y2 y3 y4 y5 y6 y7 y8 y9
   unfold pred_put.j0
   repeat' first
   | (with_reducible exact ih0 _ _ _ _ _ _ _ _)
   | (with_reducible exact ih1 _ _ _ _ _ _ _ _)
   | (with_reducible exact ih2 _ _ _ _ _ _ _ _)
   | (with_reducible exact ih3 _ _ _ _)
   | (with_reducible exact ih4 _ _ _ _ _ _ _ _ _ _)
   | (with_reducible exact ih5 _ _ _ _ _ _ _ _ _ _)
   | (with_reducible exact ih6 _ _ _ _ _ _ _ _ _ _ _)
   | (with_reducible exact ih7 _ _ _ _ _ _ _ _ _ _)
   | (with_reducible exact varint_Put.mono _ _ _)
   | (with_reducible exact varint_PutText.mono _ _ _)
   | (with_reducible exact LeO.refl _)
   | (with_reducible exact LeO.none _)
   | (with_reducible refine LeO.ite ?_ ?_)
   | (with_reducible refine LeO.bind ?_ (fun _ => ?_))
   | exact ih0 _ _ _ _ _ _ _ _
   | exact ih1 _ _ _ _ _ _ _ _
   | exact ih2 _ _ _ _ _ _ _ _
   | exact ih3 _ _ _ _
   | exact ih4 _ _ _ _ _ _ _ _ _ _
   | exact ih5 _ _ _ _ _ _ _ _ _ _
   | exact ih6 _ _ _ _ _ _ _ _ _ _ _
   | exact ih7 _ _ _ _ _ _ _ _ _ _
   | exact varint_Put.mono _ _ _
   | exact varint_PutText.mono _ _ _
   | exact LeO.none _
   | refine LeO.ite ?_ ?_
   | refine LeO.bind ?_ (fun _ => ?_)
theorem pred_put.mono : ∀ a0 a1 a2 a3 a4 a5 a6 a7 k, LeO (pred_put.f k a0 a1 a2 a3 a4 a5 a6 a7) (pred_put.f (k + 1) a0 a1 a2 a3 a4 a5 a6 a7) := by
 intro a0 a1 a2 a3 a4 a5 a6 a7 k
 obtain ⟨ih0, ih1, ih2, ih3, ih4, ih5, ih6, ih7⟩ := pred_put.mono_l k
 exact ih0 a0 a1 a2 a3 a4 a5 a6 a7
def pred_put.T9 : Bool × List (List Nat × List Nat) := (true, [([], []), ([], []), ([1], [1]), ([2], [2]), ([0, 3, 3], [0, 3]), ([], []), ([5], [5]), ([6, 4], [6]), ([4, 7, 7], [4, 7]), ([8, 8, 0, 1, 2, 3, 4, 5, 6, 7, 8], [8])])
def pred_put.B9 : List Nat := [0, 0, 2, 6, 15, 0, 32, 127, 255, 511]
theorem pred_put.tab9 : rtab .any (opsOf Try.f35 9) = pred_put.T9 := by kernel_rfl
theorem pred_put.bits9 : waitsOk pred_put.T9.2 pred_put.B9 = true := by kernel_rfl
set_option maxHeartbeats 8000000 in
set_option maxRecDepth 100000 in
theorem pred_put.calls (k : Nat) : ∀ (A0 : Option Addr) (c0 : Nat) (l0 : List Int) (a1_0 : Int) (a1_1 : ByteArray) (a1_2 : Int) (a1_3 : Int) (a1_4 : ByteArray) (A1_5 : Option Addr) (c1_5 : Nat) (l1_5 : List ByteArray) (A1_6 : Option Addr) (c1_6 : Nat) (l1_6 : List (S25)) (r : List Int) (w : World) (hr0 : Kd.C (Kd.int .u8) w A0 l0.length l0) (hc0 : l0.length ≤ c0) (hr1_5 : Kd.C Kd.string w A1_5 l1_5.length l1_5) (hc1_5 : l1_5.length ≤ c1_5) (hr1_6 : Kd.C k25 w A1_6 l1_6.length l1_6) (hc1_6 : l1_6.length ≤ c1_6) (h : pred_put.f k l0 a1_0 a1_1 a1_2 a1_3 a1_4 l1_5 l1_6 = some r),
  Calls Try.prog 35 #[.slice A0 l0.length c0, .agg #[.int .i64 a1_0, .string a1_1, .int .i64 a1_2, .int .i64 a1_3, .string a1_4, .slice A1_5 l1_5.length c1_5, .slice A1_6 l1_6.length c1_6]] w fun e w' => ∃ v0_ : Value, e = .returned (v0_) ∧ Kd.R (Kd.int .u8) 5 w' w.heap.size (fun _ => True) v0_ r ∧ Below w.heap.size w w' := by
 induction k using Nat.strongRecOn with
 | _ k ih =>
 intro A0 c0 l0 a1_0 a1_1 a1_2 a1_3 a1_4 A1_5 c1_5 l1_5 A1_6 c1_6 l1_6 r w hr0 hc0 hr1_5 hc1_5 hr1_6 hc1_6 h
 cases k with
 | zero => exact absurd h (by simp [pred_put.f])
 | succ k =>
 simp only [pred_put.f] at h
 have hu25 := Try.underlying25
 have HR0 := Aside0.mk hr0
 have HC0 := Aside0.mk hc0
 clear hr0 hc0
 have HR1_5 := Aside0.mk hr1_5
 have HC1_5 := Aside0.mk hc1_5
 clear hr1_5 hc1_5
 have HR1_6 := Aside0.mk hr1_6
 have HC1_6 := Aside0.mk hc1_6
 clear hr1_6 hc1_6
 have HB := Aside0.mk (Below.refl w.heap.size w)
 have H : ((varint_Put.f k l0 (IntKind.u64.wrap (a1_0))).bind fun t400 => (if a1_0 = 1 then (pred_put.j0 k t400 a1_0 (a1_0 == 1) a1_0 a1_1 a1_2 a1_3 a1_4 l1_5 l1_6) else (pred_put.j0 k t400 a1_0 (a1_0 == 2) a1_0 a1_1 a1_2 a1_3 a1_4 l1_5 l1_6))) = some r := h
 clear h
 replace H := Option.bind_eq_some_iff.mp H
 obtain ⟨t400, A30, H⟩ := H
 replace H : (if a1_0 = 1 then (pred_put.j0 k t400 a1_0 (a1_0 == 1) a1_0 a1_1 a1_2 a1_3 a1_4 l1_5 l1_6) else (pred_put.j0 k t400 a1_0 (a1_0 == 2) a1_0 a1_1 a1_2 a1_3 a1_4 l1_5 l1_6)) = some r := H
 have A3 := Aside0.mk A30
 clear A30
 have HC4 := Aside0.mk H
 clear H
 go_enter Try.func35, Try.ntmps35
 go_upto_block 0 with (first | ((with_reducible refine gate_dst (N := 3) rfl ?_); refine box_event ?hg (N := 3) ?hd (cs := #[.int .i64 a1_0, .string a1_1, .int .i64 a1_2, .int .i64 a1_3, .string a1_4, .slice A1_5 l1_5.length c1_5, .slice A1_6 l1_6.length c1_6]) (t := 25) ?hr ?_; (case hd => rfl); (case hg => rfl); (case hr => first | (go_simp; done) | (go_simp; rfl)); intro gb399 hg w5 hbox hb; have n0_ := Aside0.mk (below_step (mB HB.out) hb); have n1_ := Aside0.mk (hbox); have n2_ := Aside0.mk ((by rw [hg]; exact (below_size (mB HB.out)) : w.heap.size ≤ gb399)); have n3_ := n2_; clear HB; have HB := n0_; have BK399 := n1_; have GW399 := n2_; have GE399 := n3_; clear n0_ n1_ n2_ n3_; clear hb hbox hg; obtain ⟨hcz6_0, hcz6_1, hcz6_2, hcz6_3, hcz6_4, hcz6_5, hcz6_6, hfz6_0, hfz6_1, hfz6_2, hfz6_3, hfz6_4, hfz6_5, hfz6_6⟩ := cells_7 BK399.out) | ((with_reducible refine gate_callee (f := 44) rfl ?_); refine goesL_ (some 13) rfl rfl Try.func44 (by kernel_rfl) rfl #[.slice A0 l0.length c0, .int .u64 (IntKind.u64.wrap (a1_0))] rfl (by (try simp only [List.map_toArray, List.map_cons, List.map_nil]); first | done | rfl | (simp only [List.length_drop, List.length_take]; rfl)) ?_; (with_reducible refine (varint_Put.calls k _ _ l0 (IntKind.u64.wrap (a1_0)) t400 _ ?side1 ?side2 A3.out).mono ?_); (case side1 => repeat (first | exact (Kd.C_below HR0.out HB.out) | (with_reducible refine Kd.C_alloc ?_ _) | (with_reducible refine Kd.C_drewN ?_ _) | (with_reducible refine Kd.C_drew ?_))); (case side2 => first | exact HC0.out | exact Kd.V_mono HC0.out (fun k_ hk_ => by grind)); rintro e w7 ⟨v401, rfl, ho0, hb⟩; refine ⟨_, rfl, ?_⟩; have n0_ := Aside0.mk (Kd.R_lower ho0 (below_size mZ)); have n1_ := Aside0.mk (blk_below (mK BK399.out) hb); have n2_ := Aside0.mk (below_step mZ hb); clear BK399; clear HB; have HO402 := n0_; have BK399 := n1_; have HB := n2_; clear n0_ n1_ n2_; (try clear hb); (try clear hb2); (try clear hk); (try clear hi); (try clear ho0); obtain ⟨hcz8_0, hcz8_1, hcz8_2, hcz8_3, hcz8_4, hcz8_5, hcz8_6, hfz8_0, hfz8_1, hfz8_2, hfz8_3, hfz8_4, hfz8_5, hfz8_6⟩ := cells_7 BK399.out))
 (try simp only [Act.put, List.setIfInBounds_toArray, List.set_cons_zero, List.set_cons_succ])
 go_cut [0] (fun v0 wc => ∃ (kq : Nat) (x0_3 : List Int), Aside0 (pred_put.j1 kq x0_3 a1_0 a1_1 a1_2 a1_3 a1_4 l1_5 l1_6 = some r) ∧ Aside0 (kq ≤ k) ∧ Aside0 (Kd.R (Kd.int .u8) 5 wc w.heap.size (fun _ => True) v0 x0_3) ∧ Aside0 (wc.heap[gb399]? = some (.cells #[.int .i64 a1_0, .string a1_1, .int .i64 a1_2, .int .i64 a1_3, .string a1_4, (.slice A1_5 l1_5.length c1_5), (.slice A1_6 l1_6.length c1_6)] 25 (0, 0))) ∧ Aside0 (Below w.heap.size w wc))
 case first =>
  have H := HC4.out
  clear HC4
  have HC9 := Aside0.mk H
  clear H
  go_upto_if 20 with (fail)
  go_cut [20] (fun v20 wc => ∃ (kq : Nat) (x20_8 : Bool), v20 = .bool x20_8 ∧ Aside0 (pred_put.j0 kq t400 a1_0 x20_8 a1_0 a1_1 a1_2 a1_3 a1_4 l1_5 l1_6 = some r) ∧ Aside0 (kq ≤ k) ∧ Aside0 (Kd.R (Kd.int .u8) 5 wc w.heap.size (fun _ => True) v401 t400) ∧ Aside0 (wc.heap[gb399]? = some (.cells #[.int .i64 a1_0, .string a1_1, .int .i64 a1_2, .int .i64 a1_3, .string a1_4, (.slice A1_5 l1_5.length c1_5), (.slice A1_6 l1_6.length c1_6)] 25 (0, 0))) ∧ Aside0 (Below w.heap.size w wc))
  case first =>
   have H := HC9.out
   clear HC9
   by_cases c10 : a1_0 = 1
   ·rw [if_pos c10] at H
    have c10b0 : (a1_0 == 1) = true := beq_iff_eq.mpr c10
    have c10b1 : (a1_0 != 1) = false := bne_eq_false_iff_eq.mpr c10
    clear c10
    (first | rw [c10b0] | rw [c10b1] | (simp only [i64_w, i32_w]; rw [c10b0]) | skip)
    have H' := Aside0.mk H
    clear H
    go_wp2
    go_meet
    case rel => exact ⟨_, ((a1_0 == 1)), (by first | rfl | (simp; done) | (simp [*]; done)), H', ⟨by first | omega | exact Nat.le_refl _⟩, ⟨mR HO402.out⟩, ⟨mK BK399.out⟩, ⟨mZ⟩⟩
   ·rw [if_neg c10] at H
    have c10b0 : (a1_0 == 1) = false := beq_eq_false_iff_ne.mpr c10
    have c10b1 : (a1_0 != 1) = true := bne_iff_ne.mpr c10
    (first | rw [c10b0] | rw [c10b1] | (simp only [i64_w, i32_w]; rw [c10b0]) | skip)
    have H' := Aside0.mk H
    clear H
    go_wp2
    go_meet
    case rel => exact ⟨_, ((a1_0 == 2)), (by first | rfl | (simp; done) | (simp [*]; done)), H', ⟨by first | omega | exact Nat.le_refl _⟩, ⟨mR HO402.out⟩, ⟨mK BK399.out⟩, ⟨mZ⟩⟩
  case rest =>
   clear HC9
   try clear c10
   try clear c10b0
   try clear c10b1
   try clear hcz6_0
   try clear hcz6_1
   try clear hcz6_2
   try clear hcz6_3
   try clear hcz6_4
   try clear hcz6_5
   try clear hcz6_6
   try clear hcz8_0
   try clear hcz8_1
   try clear hcz8_2
   try clear hcz8_3
   try clear hcz8_4
   try clear hcz8_5
   try clear hcz8_6
   try clear hfz6_0
   try clear hfz6_1
   try clear hfz6_2
   try clear hfz6_3
   try clear hfz6_4
   try clear hfz6_5
   try clear hfz6_6
   try clear hfz8_0
   try clear hfz8_1
   try clear hfz8_2
   try clear hfz8_3
   try clear hfz8_4
   try clear hfz8_5
   try clear hfz8_6
   obtain ⟨kq, x20_8, rfl, HA, HJ8, HO_0, BK399, HB⟩ := hcut
   cases kq with
   | zero => exact absurd HA.out (by simp [pred_put.j0])
   | succ kj8 =>
    have H := HA.out
    clear HA
    simp only [pred_put.j0] at H
    by_cases c11 : x20_8 = true
    ·subst c11
     have H1 : ((varint_Put.f kj8 t400 (IntKind.u64.wrap ((l1_6.length : Int)))).bind fun t403 => (pred_put.j1 kj8 t403 a1_0 a1_1 a1_2 a1_3 a1_4 l1_5 l1_6)) = some r := by rw [if_pos rfl] at H; exact H
     clear H
     have H := H1
     clear H1
     replace H := Option.bind_eq_some_iff.mp H
     obtain ⟨t403, A120, H⟩ := H
     replace H : (pred_put.j1 kj8 t403 a1_0 a1_1 a1_2 a1_3 a1_4 l1_5 l1_6) = some r := H
     have A12 := Aside0.mk A120
     clear A120
     have H' := Aside0.mk H
     clear H
     obtain ⟨hcz13_0, hcz13_1, hcz13_2, hcz13_3, hcz13_4, hcz13_5, hcz13_6, hfz13_0, hfz13_1, hfz13_2, hfz13_3, hfz13_4, hfz13_5, hfz13_6⟩ := cells_7 BK399.out
     obtain ⟨Ao14, co14, eo14⟩ := Kd.R_slice HO_0.out
     subst eo14
     go_wp2_with (first | ((with_reducible refine gate_callee (f := 44) rfl ?_); refine goesL_ (some 28) rfl rfl Try.func44 (by kernel_rfl) rfl #[.slice Ao14 t400.length co14, .int .u64 (IntKind.u64.wrap ((l1_6.length : Int)))] rfl (by (try simp only [List.map_toArray, List.map_cons, List.map_nil]); first | done | rfl | (simp only [List.length_drop, List.length_take]; rfl)) ?_; (with_reducible refine (varint_Put.calls kj8 _ _ t400 (IntKind.u64.wrap ((l1_6.length : Int))) t403 _ ?side1 ?side2 A12.out).mono ?_); (case side1 => repeat (first | exact (Kd.R_reads' HO_0.out).2.2 | (with_reducible refine Kd.C_alloc ?_ _) | (with_reducible refine Kd.C_drewN ?_ _) | (with_reducible refine Kd.C_drew ?_))); (case side2 => exact (Kd.R_reads' HO_0.out).2.1); rintro e w15 ⟨v404, rfl, ho0, hb⟩; refine ⟨_, rfl, ?_⟩; have n0_ := Aside0.mk (Kd.R_elder' (mR HO_0.out) (Kd.R_base ho0) hb); have n1_ := Aside0.mk (Kd.R_lower (Kd.R_new' ho0 (Kd.R_lt (mR HO_0.out))) (below_size mZ)); have n2_ := Aside0.mk (blk_below (mK BK399.out) hb); have n3_ := Aside0.mk (below_step mZ hb); clear HO_0; clear BK399; clear HB; have HO_0 := n0_; have HO405 := n1_; have BK399 := n2_; have HB := n3_; clear n0_ n1_ n2_ n3_; (try clear hb); (try clear hb2); (try clear hk); (try clear hi); (try clear ho0)))
     go_meet
     case rel => exact ⟨_, (t403), H', ⟨by have := HJ8.out; first | omega | exact Nat.le_refl _⟩, ⟨by (with_reducible repeat (first | apply Kd.R_alloc | apply Kd.R_drewN | apply Kd.R_drew)); exact Kd.R_mono HO405.out (fun _ hk => trivial)⟩, ⟨mK BK399.out⟩, ⟨mZ⟩⟩
    ·replace c11 := Bool.eq_false_iff.mpr c11
     subst c11
     have H1 : (if a1_0 = 3 then (pred_put.j1 kj8 t400 a1_0 a1_1 a1_2 a1_3 a1_4 l1_5 l1_6) else (if a1_0 = 10 then ((varint_Zig.f a1_2).bind fun t406 => ((varint_Put.f kj8 t400 t406).bind fun t407 => ((varint_Zig.f a1_3).bind fun t410 => ((varint_Put.f kj8 t407 t410).bind fun t411 => (some t411))))) else ((varint_PutText.f kj8 t400 a1_1).bind fun t414 => (pred_put.j1 kj8 t414 a1_0 a1_1 a1_2 a1_3 a1_4 l1_5 l1_6)))) = some r := by rw [if_neg (show ¬ (false = true) by decide)] at H; exact H
     clear H
     have H := H1
     clear H1
     by_cases c16 : a1_0 = 3
     ·rw [if_pos c16] at H
      have c16b0 : (a1_0 == 3) = true := beq_iff_eq.mpr c16
      have c16b1 : (a1_0 != 3) = false := bne_eq_false_iff_eq.mpr c16
      clear c16
      have H' := Aside0.mk H
      clear H
      go_wp2
      go_meet
      case rel => exact ⟨_, (t400), H', ⟨by have := HJ8.out; first | omega | exact Nat.le_refl _⟩, ⟨mR HO_0.out⟩, ⟨mK BK399.out⟩, ⟨mZ⟩⟩
     ·rw [if_neg c16] at H
      have c16b0 : (a1_0 == 3) = false := beq_eq_false_iff_ne.mpr c16
      have c16b1 : (a1_0 != 3) = true := bne_iff_ne.mpr c16
      by_cases c17 : a1_0 = 10
      ·rw [if_pos c17] at H
       have c17b0 : (a1_0 == 10) = true := beq_iff_eq.mpr c17
       have c17b1 : (a1_0 != 10) = false := bne_eq_false_iff_eq.mpr c17
       clear c17
       replace H := Option.bind_eq_some_iff.mp H
       obtain ⟨t406, A180, H⟩ := H
       replace H : ((varint_Put.f kj8 t400 t406).bind fun t407 => ((varint_Zig.f a1_3).bind fun t410 => ((varint_Put.f kj8 t407 t410).bind fun t411 => (some t411)))) = some r := H
       have A18 := Aside0.mk A180
       clear A180
       replace H := Option.bind_eq_some_iff.mp H
       obtain ⟨t407, A190, H⟩ := H
       replace H : ((varint_Zig.f a1_3).bind fun t410 => ((varint_Put.f kj8 t407 t410).bind fun t411 => (some t411))) = some r := H
       have A19 := Aside0.mk A190
       clear A190
       replace H := Option.bind_eq_some_iff.mp H
       obtain ⟨t410, A200, H⟩ := H
       replace H : ((varint_Put.f kj8 t407 t410).bind fun t411 => (some t411)) = some r := H
       have A20 := Aside0.mk A200
       clear A200
       replace H := Option.bind_eq_some_iff.mp H
       obtain ⟨t411, A210, H⟩ := H
       replace H : (some t411) = some r := H
       have A21 := Aside0.mk A210
       clear A210
       obtain rfl := Option.some.inj H
       try go_wp2
       have n0_ := Aside0.mk (Kd.R_drew HO_0.out)
       have n1_ := Aside0.mk (blk_drew BK399.out)
       have n2_ := Aside0.mk (below_drew1 HB.out)
       clear HO_0
       clear BK399
       clear HB
       have HO_0 := n0_
       have BK399 := n1_
       have HB := n2_
       clear n0_ n1_ n2_
       refine start_ (n := 10) (S := fun w' => w'.cell? ⟨gb399, 0, none⟩ = some (.int .i64 a1_0) ∧ w'.cell? ⟨gb399, 1, none⟩ = some (.string a1_1) ∧ w'.cell? ⟨gb399, 2, none⟩ = some (.int .i64 a1_2) ∧ w'.cell? ⟨gb399, 3, none⟩ = some (.int .i64 a1_3) ∧ w'.cell? ⟨gb399, 4, none⟩ = some (.string a1_4) ∧ w'.cell? ⟨gb399, 5, none⟩ = some (.slice A1_5 l1_5.length c1_5) ∧ w'.cell? ⟨gb399, 6, none⟩ = some (.slice A1_6 l1_6.length c1_6)) (ds := []) #[false, false, false, false, false, false, false, false, false, false] (by kernel_rfl) rfl rfl ⟨(blk_cell BK399.out 0).trans rfl, (blk_cell BK399.out 1).trans rfl, (blk_cell BK399.out 2).trans rfl, (blk_cell BK399.out 3).trans rfl, (blk_cell BK399.out 4).trans rfl, (blk_cell BK399.out 5).trans rfl, (blk_cell BK399.out 6).trans rfl⟩ (fun hHeld => ?_); refine with_tabW pred_put.tab9 pred_put.bits9 (fun HT_ HW_ => ?_)
       generalize wc.drew = w22 at HO_0 BK399 HB hHeld ⊢
       refine pure_ (i := 0) (N := some 33) (v := ?_) (a' := ?_) #[true, false, false, false, false, false, false, false, false, false] rfl rfl (any_of HT_.out (by kernel_rfl)) (fun _ _ _ h => h) (Or.inl ⟨by rfl, ?_⟩) ?_ ?_
       rotate_left
       ·intro w'
        go_simp
        with_reducible rfl
       rotate_left
       ·simp only [Act.put, List.setIfInBounds_toArray, List.set_cons_zero, List.set_cons_succ, i64_w, i32_w]
        rfl
       refine pure_ (i := 1) (N := some 34) (v := ?_) (a' := ?_) #[true, true, false, false, false, false, false, false, false, false] rfl rfl (any_of HT_.out (by kernel_rfl)) (fun _ _ _ h => h) (Or.inl ⟨by rfl, ?_⟩) ?_ ?_
       rotate_left
       ·intro w'
        go_simp
        with_reducible rfl
       rotate_left
       ·simp only [Act.put, List.setIfInBounds_toArray, List.set_cons_zero, List.set_cons_succ, i64_w, i32_w]
        rfl
       refine pure_ (i := 5) (N := some 38) (v := ?_) (a' := ?_) #[true, true, false, false, false, true, false, false, false, false] rfl rfl (any_of HT_.out (by kernel_rfl)) (fun _ _ _ h => h) (Or.inl ⟨by rfl, ?_⟩) ?_ ?_
       rotate_left
       ·intro w'
        go_simp
        with_reducible rfl
       rotate_left
       ·simp only [Act.put, List.setIfInBounds_toArray, List.set_cons_zero, List.set_cons_succ, i64_w, i32_w]
        rfl
       refine take_ (i := 2) (N := some 35) (v := ?_) (a' := ?_) #[true, true, true, false, false, true, false, false, false, false] rfl rfl (take_ofW HT_.out HW_.out (by kernel_rfl)) (fun _ _ _ h => h) (Or.inl ⟨by rfl, ?_⟩) hHeld ?_ ?_
       rotate_left
       ·rintro w' ⟨s0, s1, s2, s3, s4, s5, s6⟩
        go_simp
        with_reducible rfl
       rotate_left
       ·simp only [Act.put, List.setIfInBounds_toArray, List.set_cons_zero, List.set_cons_succ, i64_w, i32_w]
        rfl
       refine take_ (i := 6) (N := some 39) (v := ?_) (a' := ?_) #[true, true, true, false, false, true, true, false, false, false] rfl rfl (take_ofW HT_.out HW_.out (by kernel_rfl)) (fun _ _ _ h => h) (Or.inl ⟨by rfl, ?_⟩) hHeld ?_ ?_
       rotate_left
       ·rintro w' ⟨s0, s1, s2, s3, s4, s5, s6⟩
        go_simp
        with_reducible rfl
       rotate_left
       ·simp only [Act.put, List.setIfInBounds_toArray, List.set_cons_zero, List.set_cons_succ, i64_w, i32_w]
        rfl
       refine one_ (i := 3) (N := some 36) #[true, true, true, true, false, true, true, false, false, false] rfl rfl (one_of HT_.out (by kernel_rfl)) (by decide) (fun K hK => ?_)
       refine goes_ Try.func45 (by kernel_rfl) rfl #[.int .i64 a1_2] (by rfl) rfl rfl (by (try simp only [List.map_toArray, List.map_cons, List.map_nil]); first | done | rfl | (simp only [List.length_drop, List.length_take]; rfl)) ?_
       with_reducible refine (varint_Zig.calls a1_2 t406 _ A18.out).mono ?_
       rintro e w' ⟨rfl, ⟨nd, rfl⟩⟩
       refine ⟨_, rfl, ?_⟩
       obtain ⟨Ao23, co23, eo23⟩ := Kd.R_slice HO_0.out
       (first | subst eo23 | (injection eo23 with f1_ f2_ f3_; have f4_ := f1_.symm; have f5_ := f3_.symm; clear f1_ f2_ f3_; subst f4_; subst f5_))
       refine hK.out _ _ ⟨(blk_cell BK399.out 0).trans rfl, (blk_cell BK399.out 1).trans rfl, (blk_cell BK399.out 2).trans rfl, (blk_cell BK399.out 3).trans rfl, (blk_cell BK399.out 4).trans rfl, (blk_cell BK399.out 5).trans rfl, (blk_cell BK399.out 6).trans rfl⟩ (fun hHeld => ?_)
       clear hK K
       refine norm_ (a' := ?_) ?_ ?_
       rotate_left
       ·show Act.put _ (some 36) _ = _
        simp only [Act.put, List.setIfInBounds_toArray, List.set_cons_zero, List.set_cons_succ, i64_w, i32_w]
        rfl
       refine one_ (i := 4) (N := some 37) #[true, true, true, true, true, true, true, false, false, false] rfl rfl (one_of HT_.out (by kernel_rfl)) (by decide) (fun K hK => ?_)
       refine goes_ Try.func44 (by kernel_rfl) rfl #[.slice Ao23 t400.length co23, .int .u64 t406] (by rfl) rfl rfl (by (try simp only [List.map_toArray, List.map_cons, List.map_nil]); first | done | rfl | (simp only [List.length_drop, List.length_take]; rfl)) ?_
       with_reducible refine (varint_Put.calls kj8 _ _ t400 t406 t407 _ ?side1 ?side2 A19.out).mono ?_
       (case side1 => repeat (first | exact (Kd.R_reads' HO_0.out).2.2 | (with_reducible refine Kd.C_alloc ?_ _) | (with_reducible refine Kd.C_drewN ?_ _) | (with_reducible refine Kd.C_drew ?_)))
       (case side2 => exact (Kd.R_reads' HO_0.out).2.1)
       rintro e w24 ⟨v408, rfl, ho0, hb⟩
       refine ⟨_, rfl, ?_⟩
       have n0_ := Aside0.mk (Kd.R_elder' (mR HO_0.out) (Kd.R_base ho0) hb)
       have n1_ := Aside0.mk (Kd.R_lower (Kd.R_new' ho0 (Kd.R_lt (mR HO_0.out))) (below_size mZ))
       have n2_ := Aside0.mk (blk_below (mK BK399.out) hb)
       have n3_ := Aside0.mk (below_step mZ hb)
       clear HO_0
       clear BK399
       clear HB
       have HO_0 := n0_
       have HO409 := n1_
       have BK399 := n2_
       have HB := n3_
       clear n0_ n1_ n2_ n3_
       (try clear hb)
       (try clear hb2)
       (try clear hk)
       (try clear hi)
       (try clear ho0)
       refine hK.out _ _ ⟨(blk_cell BK399.out 0).trans rfl, (blk_cell BK399.out 1).trans rfl, (blk_cell BK399.out 2).trans rfl, (blk_cell BK399.out 3).trans rfl, (blk_cell BK399.out 4).trans rfl, (blk_cell BK399.out 5).trans rfl, (blk_cell BK399.out 6).trans rfl⟩ (fun hHeld => ?_)
       clear hK K
       refine norm_ (a' := ?_) ?_ ?_
       rotate_left
       ·show Act.put _ (some 37) _ = _
        simp only [Act.put, List.setIfInBounds_toArray, List.set_cons_zero, List.set_cons_succ, i64_w, i32_w]
        rfl
       refine one_ (i := 7) (N := some 40) #[true, true, true, true, true, true, true, true, false, false] rfl rfl (one_of HT_.out (by kernel_rfl)) (by decide) (fun K hK => ?_)
       refine goes_ Try.func45 (by kernel_rfl) rfl #[.int .i64 a1_3] (by rfl) rfl rfl (by (try simp only [List.map_toArray, List.map_cons, List.map_nil]); first | done | rfl | (simp only [List.length_drop, List.length_take]; rfl)) ?_
       with_reducible refine (varint_Zig.calls a1_3 t410 _ A20.out).mono ?_
       rintro e w' ⟨rfl, ⟨nd, rfl⟩⟩
       refine ⟨_, rfl, ?_⟩
       obtain ⟨Ao25, co25, eo25⟩ := Kd.R_slice HO409.out
       (first | subst eo25 | (injection eo25 with f1_ f2_ f3_; have f4_ := f1_.symm; have f5_ := f3_.symm; clear f1_ f2_ f3_; subst f4_; subst f5_))
       refine hK.out _ _ ⟨(blk_cell BK399.out 0).trans rfl, (blk_cell BK399.out 1).trans rfl, (blk_cell BK399.out 2).trans rfl, (blk_cell BK399.out 3).trans rfl, (blk_cell BK399.out 4).trans rfl, (blk_cell BK399.out 5).trans rfl, (blk_cell BK399.out 6).trans rfl⟩ (fun hHeld => ?_)
       clear hK K
       refine norm_ (a' := ?_) ?_ ?_
       rotate_left
       ·show Act.put _ (some 40) _ = _
        simp only [Act.put, List.setIfInBounds_toArray, List.set_cons_zero, List.set_cons_succ, i64_w, i32_w]
        rfl
       refine one_ (i := 8) (N := some 41) #[true, true, true, true, true, true, true, true, true, false] rfl rfl (one_of HT_.out (by kernel_rfl)) (by decide) (fun K hK => ?_)
       refine goes_ Try.func44 (by kernel_rfl) rfl #[.slice Ao25 t407.length co25, .int .u64 t410] (by rfl) rfl rfl (by (try simp only [List.map_toArray, List.map_cons, List.map_nil]); first | done | rfl | (simp only [List.length_drop, List.length_take]; rfl)) ?_
       with_reducible refine (varint_Put.calls kj8 _ _ t407 t410 t411 _ ?side1 ?side2 A21.out).mono ?_
       (case side1 => repeat (first | exact (Kd.R_reads' HO409.out).2.2 | (with_reducible refine Kd.C_alloc ?_ _) | (with_reducible refine Kd.C_drewN ?_ _) | (with_reducible refine Kd.C_drew ?_)))
       (case side2 => exact (Kd.R_reads' HO409.out).2.1)
       rintro e w26 ⟨v412, rfl, ho0, hb⟩
       refine ⟨_, rfl, ?_⟩
       have n0_ := Aside0.mk (Kd.R_elder' (mR HO_0.out) (Kd.R_base ho0) hb)
       have n1_ := Aside0.mk (Kd.R_elder' (mR HO409.out) (Kd.R_base ho0) hb)
       have n2_ := Aside0.mk (Kd.R_lower (Kd.R_new' (Kd.R_new' ho0 (Kd.R_lt (mR HO_0.out))) (Kd.R_lt (mR HO409.out))) (below_size mZ))
       have n3_ := Aside0.mk (blk_below (mK BK399.out) hb)
       have n4_ := Aside0.mk (below_step mZ hb)
       clear HO_0
       clear HO409
       clear BK399
       clear HB
       have HO_0 := n0_
       have HO409 := n1_
       have HO413 := n2_
       have BK399 := n3_
       have HB := n4_
       clear n0_ n1_ n2_ n3_ n4_
       (try clear hb)
       (try clear hb2)
       (try clear hk)
       (try clear hi)
       (try clear ho0)
       refine hK.out _ _ ⟨(blk_cell BK399.out 0).trans rfl, (blk_cell BK399.out 1).trans rfl, (blk_cell BK399.out 2).trans rfl, (blk_cell BK399.out 3).trans rfl, (blk_cell BK399.out 4).trans rfl, (blk_cell BK399.out 5).trans rfl, (blk_cell BK399.out 6).trans rfl⟩ (fun hHeld => ?_)
       clear hK K
       refine norm_ (a' := ?_) ?_ ?_
       rotate_left
       ·show Act.put _ (some 41) _ = _
        simp only [Act.put, List.setIfInBounds_toArray, List.set_cons_zero, List.set_cons_succ, i64_w, i32_w]
        rfl
       refine pure_ (i := 9) (N := some 4) (v := ?_) (a' := ?_) #[true, true, true, true, true, true, true, true, true, true] rfl rfl (any_of HT_.out (by kernel_rfl)) (fun _ _ _ h => h) (Or.inl ⟨by rfl, ?_⟩) ?_ ?_
       rotate_left
       ·intro w'
        go_simp
        with_reducible rfl
       rotate_left
       ·simp only [Act.put, List.setIfInBounds_toArray, List.set_cons_zero, List.set_cons_succ, i64_w, i32_w]
        rfl
       refine done_ (done_of HT_.out (by kernel_rfl)) ?_
       try go_wp2
       go_ret
       exact ⟨_, by first | rfl | (simp [errW_none, errW_some] <;> rfl) | (simp [*, errW_none, errW_some] <;> rfl), by (with_reducible repeat (first | apply Kd.R_alloc | apply Kd.R_drewN | apply Kd.R_drew)); exact Kd.R_mono HO413.out (fun _ hk => trivial), mZ⟩
      ·rw [if_neg c17] at H
       have c17b0 : (a1_0 == 10) = false := beq_eq_false_iff_ne.mpr c17
       have c17b1 : (a1_0 != 10) = true := bne_iff_ne.mpr c17
       replace H := Option.bind_eq_some_iff.mp H
       obtain ⟨t414, A270, H⟩ := H
       replace H : (pred_put.j1 kj8 t414 a1_0 a1_1 a1_2 a1_3 a1_4 l1_5 l1_6) = some r := H
       have A27 := Aside0.mk A270
       clear A270
       have H' := Aside0.mk H
       clear H
       obtain ⟨hcz28_0, hcz28_1, hcz28_2, hcz28_3, hcz28_4, hcz28_5, hcz28_6, hfz28_0, hfz28_1, hfz28_2, hfz28_3, hfz28_4, hfz28_5, hfz28_6⟩ := cells_7 BK399.out
       obtain ⟨Ao29, co29, eo29⟩ := Kd.R_slice HO_0.out
       subst eo29
       go_wp2_with (first | ((with_reducible refine gate_callee (f := 46) rfl ?_); refine goesL_ (some 19) rfl rfl Try.func46 (by kernel_rfl) rfl #[.slice Ao29 t400.length co29, .string a1_1] rfl (by (try simp only [List.map_toArray, List.map_cons, List.map_nil]); first | done | rfl | (simp only [List.length_drop, List.length_take]; rfl)) ?_; (with_reducible refine (varint_PutText.calls kj8 _ _ t400 a1_1 t414 _ ?side1 ?side2 A27.out).mono ?_); (case side1 => repeat (first | exact (Kd.R_reads' HO_0.out).2.2 | (with_reducible refine Kd.C_alloc ?_ _) | (with_reducible refine Kd.C_drewN ?_ _) | (with_reducible refine Kd.C_drew ?_))); (case side2 => exact (Kd.R_reads' HO_0.out).2.1); rintro e w30 ⟨v415, rfl, ho0, hb⟩; refine ⟨_, rfl, ?_⟩; have n0_ := Aside0.mk (Kd.R_elder' (mR HO_0.out) (Kd.R_base ho0) hb); have n1_ := Aside0.mk (Kd.R_lower (Kd.R_new' ho0 (Kd.R_lt (mR HO_0.out))) (below_size mZ)); have n2_ := Aside0.mk (blk_below (mK BK399.out) hb); have n3_ := Aside0.mk (below_step mZ hb); clear HO_0; clear BK399; clear HB; have HO_0 := n0_; have HO416 := n1_; have BK399 := n2_; have HB := n3_; clear n0_ n1_ n2_ n3_; (try clear hb); (try clear hb2); (try clear hk); (try clear hi); (try clear ho0)))
       go_meet
       case rel => exact ⟨_, (t414), H', ⟨by have := HJ8.out; first | omega | exact Nat.le_refl _⟩, ⟨by (with_reducible repeat (first | apply Kd.R_alloc | apply Kd.R_drewN | apply Kd.R_drew)); exact Kd.R_mono HO416.out (fun _ hk => trivial)⟩, ⟨mK BK399.out⟩, ⟨mZ⟩⟩
 case rest =>
  clear HC4
  try clear c10
  try clear c10b0
  try clear c10b1
  try clear c11
  try clear c16
  try clear c16b0
  try clear c16b1
  try clear c17
  try clear c17b0
  try clear c17b1
  try clear hcz13_0
  try clear hcz13_1
  try clear hcz13_2
  try clear hcz13_3
  try clear hcz13_4
  try clear hcz13_5
  try clear hcz13_6
  try clear hcz28_0
  try clear hcz28_1
  try clear hcz28_2
  try clear hcz28_3
  try clear hcz28_4
  try clear hcz28_5
  try clear hcz28_6
  try clear hcz6_0
  try clear hcz6_1
  try clear hcz6_2
  try clear hcz6_3
  try clear hcz6_4
  try clear hcz6_5
  try clear hcz6_6
  try clear hcz8_0
  try clear hcz8_1
  try clear hcz8_2
  try clear hcz8_3
  try clear hcz8_4
  try clear hcz8_5
  try clear hcz8_6
  try clear hfz13_0
  try clear hfz13_1
  try clear hfz13_2
  try clear hfz13_3
  try clear hfz13_4
  try clear hfz13_5
  try clear hfz13_6
  try clear hfz28_0
  try clear hfz28_1
  try clear hfz28_2
  try clear hfz28_3
  try clear hfz28_4
  try clear hfz28_5
  try clear hfz28_6
  try clear hfz6_0
  try clear hfz6_1
  try clear hfz6_2
  try clear hfz6_3
  try clear hfz6_4
  try clear hfz6_5
  try clear hfz6_6
  try clear hfz8_0
  try clear hfz8_1
  try clear hfz8_2
  try clear hfz8_3
  try clear hfz8_4
  try clear hfz8_5
  try clear hfz8_6
  obtain ⟨kq, x0_3, HA, HJ3, HO_0, BK399, HB⟩ := hcut
  cases kq with
  | zero => exact absurd HA.out (by simp [pred_put.j1])
  | succ kj3 =>
   have H := HA.out
   clear HA
   simp only [pred_put.j1] at H
   have HC31 := Aside0.mk H
   clear H
   obtain ⟨hcz32_0, hcz32_1, hcz32_2, hcz32_3, hcz32_4, hcz32_5, hcz32_6, hfz32_0, hfz32_1, hfz32_2, hfz32_3, hfz32_4, hfz32_5, hfz32_6⟩ := cells_7 BK399.out
   go_upto_block 1 with (fail)
   go_cut [0] (fun v0 wc => ∃ (kq : Nat) (x0_30 : List Int), Aside0 (pred_put.j5 kq x0_30 a1_0 a1_1 a1_2 a1_3 a1_4 l1_5 l1_6 = some r) ∧ Aside0 (kq ≤ kj3) ∧ Aside0 (Kd.R (Kd.int .u8) 5 wc w.heap.size (fun _ => True) v0 x0_30) ∧ Aside0 (wc.heap[gb399]? = some (.cells #[.int .i64 a1_0, .string a1_1, .int .i64 a1_2, .int .i64 a1_3, .string a1_4, (.slice A1_5 l1_5.length c1_5), (.slice A1_6 l1_6.length c1_6)] 25 (0, 0))) ∧ Aside0 (Below w.heap.size w wc))
   case first =>
    have H := HC31.out
    clear HC31
    have HC33 := Aside0.mk H
    clear H
    go_upto_if 44 with (fail)
    go_cut [44] (fun v44 wc => ∃ (kq : Nat) (x44_32 : Bool), v44 = .bool x44_32 ∧ Aside0 (pred_put.j2 kq x0_3 a1_0 x44_32 a1_0 a1_1 a1_2 a1_3 a1_4 l1_5 l1_6 = some r) ∧ Aside0 (kq ≤ kj3) ∧ Aside0 (Kd.R (Kd.int .u8) 5 wc w.heap.size (fun _ => True) u0 x0_3) ∧ Aside0 (wc.heap[gb399]? = some (.cells #[.int .i64 a1_0, .string a1_1, .int .i64 a1_2, .int .i64 a1_3, .string a1_4, (.slice A1_5 l1_5.length c1_5), (.slice A1_6 l1_6.length c1_6)] 25 (0, 0))) ∧ Aside0 (Below w.heap.size w wc))
    case first =>
     have H := HC33.out
     clear HC33
     by_cases c34 : a1_0 = 4
     ·rw [if_pos c34] at H
      have c34b0 : (a1_0 == 4) = true := beq_iff_eq.mpr c34
      have c34b1 : (a1_0 != 4) = false := bne_eq_false_iff_eq.mpr c34
      clear c34
      (first | rw [c34b0] | rw [c34b1] | (simp only [i64_w, i32_w]; rw [c34b0]) | skip)
      have H' := Aside0.mk H
      clear H
      go_wp2
      go_meet
      case rel => exact ⟨_, ((a1_0 == 4)), (by first | rfl | (simp; done) | (simp [*]; done)), H', ⟨by have := HJ3.out; first | omega | exact Nat.le_refl _⟩, ⟨mR HO_0.out⟩, ⟨mK BK399.out⟩, ⟨mZ⟩⟩
     ·rw [if_neg c34] at H
      have c34b0 : (a1_0 == 4) = false := beq_eq_false_iff_ne.mpr c34
      have c34b1 : (a1_0 != 4) = true := bne_iff_ne.mpr c34
      (first | rw [c34b0] | rw [c34b1] | (simp only [i64_w, i32_w]; rw [c34b0]) | skip)
      have H' := Aside0.mk H
      clear H
      go_wp2
      go_meet
      case rel => exact ⟨_, ((a1_0 == 5)), (by first | rfl | (simp; done) | (simp [*]; done)), H', ⟨by have := HJ3.out; first | omega | exact Nat.le_refl _⟩, ⟨mR HO_0.out⟩, ⟨mK BK399.out⟩, ⟨mZ⟩⟩
    case rest =>
     clear HC33
     try clear c10
     try clear c10b0
     try clear c10b1
     try clear c11
     try clear c16
     try clear c16b0
     try clear c16b1
     try clear c17
     try clear c17b0
     try clear c17b1
     try clear c34
     try clear c34b0
     try clear c34b1
     try clear hcz13_0
     try clear hcz13_1
     try clear hcz13_2
     try clear hcz13_3
     try clear hcz13_4
     try clear hcz13_5
     try clear hcz13_6
     try clear hcz28_0
     try clear hcz28_1
     try clear hcz28_2
     try clear hcz28_3
     try clear hcz28_4
     try clear hcz28_5
     try clear hcz28_6
     try clear hcz32_0
     try clear hcz32_1
     try clear hcz32_2
     try clear hcz32_3
     try clear hcz32_4
     try clear hcz32_5
     try clear hcz32_6
     try clear hcz6_0
     try clear hcz6_1
     try clear hcz6_2
     try clear hcz6_3
     try clear hcz6_4
     try clear hcz6_5
     try clear hcz6_6
     try clear hcz8_0
     try clear hcz8_1
     try clear hcz8_2
     try clear hcz8_3
     try clear hcz8_4
     try clear hcz8_5
     try clear hcz8_6
     try clear hfz13_0
     try clear hfz13_1
     try clear hfz13_2
     try clear hfz13_3
     try clear hfz13_4
     try clear hfz13_5
     try clear hfz13_6
     try clear hfz28_0
     try clear hfz28_1
     try clear hfz28_2
     try clear hfz28_3
     try clear hfz28_4
     try clear hfz28_5
     try clear hfz28_6
     try clear hfz32_0
     try clear hfz32_1
     try clear hfz32_2
     try clear hfz32_3
     try clear hfz32_4
     try clear hfz32_5
     try clear hfz32_6
     try clear hfz6_0
     try clear hfz6_1
     try clear hfz6_2
     try clear hfz6_3
     try clear hfz6_4
     try clear hfz6_5
     try clear hfz6_6
     try clear hfz8_0
     try clear hfz8_1
     try clear hfz8_2
     try clear hfz8_3
     try clear hfz8_4
     try clear hfz8_5
     try clear hfz8_6
     obtain ⟨kq, x44_32, rfl, HA, HJ32, HO_0, BK399, HB⟩ := hcut
     cases kq with
     | zero => exact absurd HA.out (by simp [pred_put.j2])
     | succ kj32 =>
      have H := HA.out
      clear HA
      simp only [pred_put.j2] at H
      by_cases c35 : x44_32 = true
      ·subst c35
       have H1 : ((varint_Zig.f a1_2).bind fun t417 => ((varint_Put.f kj32 x0_3 t417).bind fun t418 => (pred_put.j5 kj32 t418 a1_0 a1_1 a1_2 a1_3 a1_4 l1_5 l1_6))) = some r := by rw [if_pos rfl] at H; exact H
       clear H
       have H := H1
       clear H1
       replace H := Option.bind_eq_some_iff.mp H
       obtain ⟨t417, A360, H⟩ := H
       replace H : ((varint_Put.f kj32 x0_3 t417).bind fun t418 => (pred_put.j5 kj32 t418 a1_0 a1_1 a1_2 a1_3 a1_4 l1_5 l1_6)) = some r := H
       have A36 := Aside0.mk A360
       clear A360
       replace H := Option.bind_eq_some_iff.mp H
       obtain ⟨t418, A370, H⟩ := H
       replace H : (pred_put.j5 kj32 t418 a1_0 a1_1 a1_2 a1_3 a1_4 l1_5 l1_6) = some r := H
       have A37 := Aside0.mk A370
       clear A370
       have H' := Aside0.mk H
       clear H
       obtain ⟨hcz38_0, hcz38_1, hcz38_2, hcz38_3, hcz38_4, hcz38_5, hcz38_6, hfz38_0, hfz38_1, hfz38_2, hfz38_3, hfz38_4, hfz38_5, hfz38_6⟩ := cells_7 BK399.out
       go_wp2_with (first | ((with_reducible refine gate_callee (f := 45) rfl ?_); refine goesL_ (some 50) rfl rfl Try.func45 (by kernel_rfl) rfl #[.int .i64 a1_2] rfl (by (try simp only [List.map_toArray, List.map_cons, List.map_nil]); first | done | rfl | (simp only [List.length_drop, List.length_take]; rfl)) ?_; (with_reducible refine (varint_Zig.calls a1_2 t417 _ A36.out).mono ?_); rintro e w' ⟨rfl, ⟨nd, rfl⟩⟩; refine ⟨_, rfl, ?_⟩; obtain ⟨Ao39, co39, eo39⟩ := Kd.R_slice HO_0.out; subst eo39) | ((with_reducible refine gate_callee (f := 44) rfl ?_); refine goesL_ (some 51) rfl rfl Try.func44 (by kernel_rfl) rfl #[.slice Ao39 x0_3.length co39, .int .u64 t417] rfl (by (try simp only [List.map_toArray, List.map_cons, List.map_nil]); first | done | rfl | (simp only [List.length_drop, List.length_take]; rfl)) ?_; (with_reducible refine (varint_Put.calls kj32 _ _ x0_3 t417 t418 _ ?side1 ?side2 A37.out).mono ?_); (case side1 => repeat (first | exact (Kd.R_reads' HO_0.out).2.2 | (with_reducible refine Kd.C_alloc ?_ _) | (with_reducible refine Kd.C_drewN ?_ _) | (with_reducible refine Kd.C_drew ?_))); (case side2 => exact (Kd.R_reads' HO_0.out).2.1); rintro e w40 ⟨v419, rfl, ho0, hb⟩; refine ⟨_, rfl, ?_⟩; have n0_ := Aside0.mk (Kd.R_elder' (mR HO_0.out) (Kd.R_base ho0) hb); have n1_ := Aside0.mk (Kd.R_lower (Kd.R_new' ho0 (Kd.R_lt (mR HO_0.out))) (below_size mZ)); have n2_ := Aside0.mk (blk_below (mK BK399.out) hb); have n3_ := Aside0.mk (below_step mZ hb); clear HO_0; clear BK399; clear HB; have HO_0 := n0_; have HO420 := n1_; have BK399 := n2_; have HB := n3_; clear n0_ n1_ n2_ n3_; (try clear hb); (try clear hb2); (try clear hk); (try clear hi); (try clear ho0)))
       go_meet
       case rel => exact ⟨_, (t418), H', ⟨by have := HJ3.out; have := HJ32.out; first | omega | exact Nat.le_refl _⟩, ⟨by (with_reducible repeat (first | apply Kd.R_alloc | apply Kd.R_drewN | apply Kd.R_drew)); exact Kd.R_mono HO420.out (fun _ hk => trivial)⟩, ⟨mK BK399.out⟩, ⟨mZ⟩⟩
      ·replace c35 := Bool.eq_false_iff.mpr c35
       subst c35
       have H1 : (if a1_0 = 6 then (pred_put.j3 kj32 x0_3 a1_0 (a1_0 == 6) a1_0 a1_1 a1_2 a1_3 a1_4 l1_5 l1_6) else (pred_put.j3 kj32 x0_3 a1_0 (a1_0 == 8) a1_0 a1_1 a1_2 a1_3 a1_4 l1_5 l1_6)) = some r := by rw [if_neg (show ¬ (false = true) by decide)] at H; exact H
       clear H
       have H := H1
       clear H1
       have HC41 := Aside0.mk H
       clear H
       go_upto_if 52 with (fail)
       go_cut [52] (fun v52 wc => ∃ (kq : Nat) (x52_40 : Bool), v52 = .bool x52_40 ∧ Aside0 (pred_put.j3 kq x0_3 a1_0 x52_40 a1_0 a1_1 a1_2 a1_3 a1_4 l1_5 l1_6 = some r) ∧ Aside0 (kq ≤ kj32) ∧ Aside0 (Kd.R (Kd.int .u8) 5 wc w.heap.size (fun _ => True) u0 x0_3) ∧ Aside0 (wc.heap[gb399]? = some (.cells #[.int .i64 a1_0, .string a1_1, .int .i64 a1_2, .int .i64 a1_3, .string a1_4, (.slice A1_5 l1_5.length c1_5), (.slice A1_6 l1_6.length c1_6)] 25 (0, 0))) ∧ Aside0 (Below w.heap.size w wc))
       case first =>
        have H := HC41.out
        clear HC41
        by_cases c42 : a1_0 = 6
        ·rw [if_pos c42] at H
         have c42b0 : (a1_0 == 6) = true := beq_iff_eq.mpr c42
         have c42b1 : (a1_0 != 6) = false := bne_eq_false_iff_eq.mpr c42
         clear c42
         (first | rw [c42b0] | rw [c42b1] | (simp only [i64_w, i32_w]; rw [c42b0]) | skip)
         have H' := Aside0.mk H
         clear H
         go_wp2
         go_meet
         case rel => exact ⟨_, ((a1_0 == 6)), (by first | rfl | (simp; done) | (simp [*]; done)), H', ⟨by have := HJ3.out; have := HJ32.out; first | omega | exact Nat.le_refl _⟩, ⟨mR HO_0.out⟩, ⟨mK BK399.out⟩, ⟨mZ⟩⟩
        ·rw [if_neg c42] at H
         have c42b0 : (a1_0 == 6) = false := beq_eq_false_iff_ne.mpr c42
         have c42b1 : (a1_0 != 6) = true := bne_iff_ne.mpr c42
         (first | rw [c42b0] | rw [c42b1] | (simp only [i64_w, i32_w]; rw [c42b0]) | skip)
         have H' := Aside0.mk H
         clear H
         go_wp2
         go_meet
         case rel => exact ⟨_, ((a1_0 == 8)), (by first | rfl | (simp; done) | (simp [*]; done)), H', ⟨by have := HJ3.out; have := HJ32.out; first | omega | exact Nat.le_refl _⟩, ⟨mR HO_0.out⟩, ⟨mK BK399.out⟩, ⟨mZ⟩⟩
       case rest =>
        clear HC41
        try clear c10
        try clear c10b0
        try clear c10b1
        try clear c11
        try clear c16
        try clear c16b0
        try clear c16b1
        try clear c17
        try clear c17b0
        try clear c17b1
        try clear c34
        try clear c34b0
        try clear c34b1
        try clear c35
        try clear c42
        try clear c42b0
        try clear c42b1
        try clear hcz13_0
        try clear hcz13_1
        try clear hcz13_2
        try clear hcz13_3
        try clear hcz13_4
        try clear hcz13_5
        try clear hcz13_6
        try clear hcz28_0
        try clear hcz28_1
        try clear hcz28_2
        try clear hcz28_3
        try clear hcz28_4
        try clear hcz28_5
        try clear hcz28_6
        try clear hcz32_0
        try clear hcz32_1
        try clear hcz32_2
        try clear hcz32_3
        try clear hcz32_4
        try clear hcz32_5
        try clear hcz32_6
        try clear hcz38_0
        try clear hcz38_1
        try clear hcz38_2
        try clear hcz38_3
        try clear hcz38_4
        try clear hcz38_5
        try clear hcz38_6
        try clear hcz6_0
        try clear hcz6_1
        try clear hcz6_2
        try clear hcz6_3
        try clear hcz6_4
        try clear hcz6_5
        try clear hcz6_6
        try clear hcz8_0
        try clear hcz8_1
        try clear hcz8_2
        try clear hcz8_3
        try clear hcz8_4
        try clear hcz8_5
        try clear hcz8_6
        try clear hfz13_0
        try clear hfz13_1
        try clear hfz13_2
        try clear hfz13_3
        try clear hfz13_4
        try clear hfz13_5
        try clear hfz13_6
        try clear hfz28_0
        try clear hfz28_1
        try clear hfz28_2
        try clear hfz28_3
        try clear hfz28_4
        try clear hfz28_5
        try clear hfz28_6
        try clear hfz32_0
        try clear hfz32_1
        try clear hfz32_2
        try clear hfz32_3
        try clear hfz32_4
        try clear hfz32_5
        try clear hfz32_6
        try clear hfz38_0
        try clear hfz38_1
        try clear hfz38_2
        try clear hfz38_3
        try clear hfz38_4
        try clear hfz38_5
        try clear hfz38_6
        try clear hfz6_0
        try clear hfz6_1
        try clear hfz6_2
        try clear hfz6_3
        try clear hfz6_4
        try clear hfz6_5
        try clear hfz6_6
        try clear hfz8_0
        try clear hfz8_1
        try clear hfz8_2
        try clear hfz8_3
        try clear hfz8_4
        try clear hfz8_5
        try clear hfz8_6
        obtain ⟨kq, x52_40, rfl, HA, HJ40, HO_0, BK399, HB⟩ := hcut
        cases kq with
        | zero => exact absurd HA.out (by simp [pred_put.j3])
        | succ kj40 =>
         have H := HA.out
         clear HA
         simp only [pred_put.j3] at H
         by_cases c43 : x52_40 = true
         ·subst c43
          have H1 : ((varint_PutText.f kj40 x0_3 a1_4).bind fun t421 => (pred_put.j5 kj40 t421 a1_0 a1_1 a1_2 a1_3 a1_4 l1_5 l1_6)) = some r := by rw [if_pos rfl] at H; exact H
          clear H
          have H := H1
          clear H1
          replace H := Option.bind_eq_some_iff.mp H
          obtain ⟨t421, A440, H⟩ := H
          replace H : (pred_put.j5 kj40 t421 a1_0 a1_1 a1_2 a1_3 a1_4 l1_5 l1_6) = some r := H
          have A44 := Aside0.mk A440
          clear A440
          have H' := Aside0.mk H
          clear H
          obtain ⟨hcz45_0, hcz45_1, hcz45_2, hcz45_3, hcz45_4, hcz45_5, hcz45_6, hfz45_0, hfz45_1, hfz45_2, hfz45_3, hfz45_4, hfz45_5, hfz45_6⟩ := cells_7 BK399.out
          obtain ⟨Ao46, co46, eo46⟩ := Kd.R_slice HO_0.out
          subst eo46
          go_wp2_with (first | ((with_reducible refine gate_callee (f := 46) rfl ?_); refine goesL_ (some 58) rfl rfl Try.func46 (by kernel_rfl) rfl #[.slice Ao46 x0_3.length co46, .string a1_4] rfl (by (try simp only [List.map_toArray, List.map_cons, List.map_nil]); first | done | rfl | (simp only [List.length_drop, List.length_take]; rfl)) ?_; (with_reducible refine (varint_PutText.calls kj40 _ _ x0_3 a1_4 t421 _ ?side1 ?side2 A44.out).mono ?_); (case side1 => repeat (first | exact (Kd.R_reads' HO_0.out).2.2 | (with_reducible refine Kd.C_alloc ?_ _) | (with_reducible refine Kd.C_drewN ?_ _) | (with_reducible refine Kd.C_drew ?_))); (case side2 => exact (Kd.R_reads' HO_0.out).2.1); rintro e w47 ⟨v422, rfl, ho0, hb⟩; refine ⟨_, rfl, ?_⟩; have n0_ := Aside0.mk (Kd.R_elder' (mR HO_0.out) (Kd.R_base ho0) hb); have n1_ := Aside0.mk (Kd.R_lower (Kd.R_new' ho0 (Kd.R_lt (mR HO_0.out))) (below_size mZ)); have n2_ := Aside0.mk (blk_below (mK BK399.out) hb); have n3_ := Aside0.mk (below_step mZ hb); clear HO_0; clear BK399; clear HB; have HO_0 := n0_; have HO423 := n1_; have BK399 := n2_; have HB := n3_; clear n0_ n1_ n2_ n3_; (try clear hb); (try clear hb2); (try clear hk); (try clear hi); (try clear ho0)))
          go_meet
          case rel => exact ⟨_, (t421), H', ⟨by have := HJ3.out; have := HJ32.out; have := HJ40.out; first | omega | exact Nat.le_refl _⟩, ⟨by (with_reducible repeat (first | apply Kd.R_alloc | apply Kd.R_drewN | apply Kd.R_drew)); exact Kd.R_mono HO423.out (fun _ hk => trivial)⟩, ⟨mK BK399.out⟩, ⟨mZ⟩⟩
         ·replace c43 := Bool.eq_false_iff.mpr c43
          subst c43
          have H1 : (if a1_0 = 7 then ((varint_Put.f kj40 x0_3 (IntKind.u64.wrap ((l1_5.length : Int)))).bind fun t424 => (pred_put.l0 kj40 t424 l1_5 (l1_5.length : Int) 0 a1_0 a1_1 a1_2 a1_3 a1_4 l1_5 l1_6)) else (pred_put.j5 kj40 x0_3 a1_0 a1_1 a1_2 a1_3 a1_4 l1_5 l1_6)) = some r := by rw [if_neg (show ¬ (false = true) by decide)] at H; exact H
          clear H
          have H := H1
          clear H1
          by_cases c48 : a1_0 = 7
          ·rw [if_pos c48] at H
           have c48b0 : (a1_0 == 7) = true := beq_iff_eq.mpr c48
           have c48b1 : (a1_0 != 7) = false := bne_eq_false_iff_eq.mpr c48
           clear c48
           replace H := Option.bind_eq_some_iff.mp H
           obtain ⟨t424, A490, H⟩ := H
           replace H : (pred_put.l0 kj40 t424 l1_5 (l1_5.length : Int) 0 a1_0 a1_1 a1_2 a1_3 a1_4 l1_5 l1_6) = some r := H
           have A49 := Aside0.mk A490
           clear A490
           have H' := Aside0.mk H
           clear H
           obtain ⟨hcz50_0, hcz50_1, hcz50_2, hcz50_3, hcz50_4, hcz50_5, hcz50_6, hfz50_0, hfz50_1, hfz50_2, hfz50_3, hfz50_4, hfz50_5, hfz50_6⟩ := cells_7 BK399.out
           obtain ⟨Ao51, co51, eo51⟩ := Kd.R_slice HO_0.out
           subst eo51
           go_wp2_with (first | ((with_reducible refine gate_callee (f := 44) rfl ?_); refine goesL_ (some 66) rfl rfl Try.func44 (by kernel_rfl) rfl #[.slice Ao51 x0_3.length co51, .int .u64 (IntKind.u64.wrap ((l1_5.length : Int)))] rfl (by (try simp only [List.map_toArray, List.map_cons, List.map_nil]); first | done | rfl | (simp only [List.length_drop, List.length_take]; rfl)) ?_; (with_reducible refine (varint_Put.calls kj40 _ _ x0_3 (IntKind.u64.wrap ((l1_5.length : Int))) t424 _ ?side1 ?side2 A49.out).mono ?_); (case side1 => repeat (first | exact (Kd.R_reads' HO_0.out).2.2 | (with_reducible refine Kd.C_alloc ?_ _) | (with_reducible refine Kd.C_drewN ?_ _) | (with_reducible refine Kd.C_drew ?_))); (case side2 => exact (Kd.R_reads' HO_0.out).2.1); rintro e w52 ⟨v425, rfl, ho0, hb⟩; refine ⟨_, rfl, ?_⟩; have n0_ := Aside0.mk (Kd.R_elder' (mR HO_0.out) (Kd.R_base ho0) hb); have n1_ := Aside0.mk (Kd.R_lower (Kd.R_new' ho0 (Kd.R_lt (mR HO_0.out))) (below_size mZ)); have n2_ := Aside0.mk (blk_below (mK BK399.out) hb); have n3_ := Aside0.mk (below_step mZ hb); clear HO_0; clear BK399; clear HB; have HO_0 := n0_; have HO426 := n1_; have BK399 := n2_; have HB := n3_; clear n0_ n1_ n2_ n3_; (try clear hb); (try clear hb2); (try clear hk); (try clear hi); (try clear ho0); obtain ⟨hcz53_0, hcz53_1, hcz53_2, hcz53_3, hcz53_4, hcz53_5, hcz53_6, hfz53_0, hfz53_1, hfz53_2, hfz53_3, hfz53_4, hfz53_5, hfz53_6⟩ := cells_7 BK399.out))
           try simp only [Act.put, List.setIfInBounds_toArray, List.set_cons_zero, List.set_cons_succ]
           go_loopg [0, 70] kj40 (fun kq v0 v70 w' => ∃ (x0_4 : List Int) (x70_4 : Int), v70 = .int .i64 x70_4 ∧ Aside0 (pred_put.l0 kq x0_4 l1_5 (l1_5.length : Int) x70_4 a1_0 a1_1 a1_2 a1_3 a1_4 l1_5 l1_6 = some r) ∧ Aside0 (kq ≤ kj40) ∧ Aside0 (Kd.R (Kd.int .u8) 5 w' w.heap.size (fun _ => True) v0 x0_4) ∧ Aside0 (w'.heap[gb399]? = some (.cells #[.int .i64 a1_0, .string a1_1, .int .i64 a1_2, .int .i64 a1_3, .string a1_4, (.slice A1_5 l1_5.length c1_5), (.slice A1_6 l1_6.length c1_6)] 25 (0, 0))) ∧ Aside0 (Below w.heap.size w w'))
           case atStart => exact ⟨(t424), (0), (by first | rfl | (simp; done) | (simp [*]; done)), H', ⟨Nat.le_refl _⟩, ⟨by (with_reducible repeat (first | apply Kd.R_alloc | apply Kd.R_drewN | apply Kd.R_drew)); exact Kd.R_mono HO426.out (fun _ hk => trivial)⟩, ⟨mK BK399.out⟩, ⟨mZ⟩⟩
           case round =>
            clear H'
            try clear c10
            try clear c10b0
            try clear c10b1
            try clear c11
            try clear c16
            try clear c16b0
            try clear c16b1
            try clear c17
            try clear c17b0
            try clear c17b1
            try clear c34
            try clear c34b0
            try clear c34b1
            try clear c35
            try clear c42
            try clear c42b0
            try clear c42b1
            try clear c43
            try clear c48
            try clear c48b0
            try clear c48b1
            try clear hcz13_0
            try clear hcz13_1
            try clear hcz13_2
            try clear hcz13_3
            try clear hcz13_4
            try clear hcz13_5
            try clear hcz13_6
            try clear hcz28_0
            try clear hcz28_1
            try clear hcz28_2
            try clear hcz28_3
            try clear hcz28_4
            try clear hcz28_5
            try clear hcz28_6
            try clear hcz32_0
            try clear hcz32_1
            try clear hcz32_2
            try clear hcz32_3
            try clear hcz32_4
            try clear hcz32_5
            try clear hcz32_6
            try clear hcz38_0
            try clear hcz38_1
            try clear hcz38_2
            try clear hcz38_3
            try clear hcz38_4
            try clear hcz38_5
            try clear hcz38_6
            try clear hcz45_0
            try clear hcz45_1
            try clear hcz45_2
            try clear hcz45_3
            try clear hcz45_4
            try clear hcz45_5
            try clear hcz45_6
            try clear hcz50_0
            try clear hcz50_1
            try clear hcz50_2
            try clear hcz50_3
            try clear hcz50_4
            try clear hcz50_5
            try clear hcz50_6
            try clear hcz53_0
            try clear hcz53_1
            try clear hcz53_2
            try clear hcz53_3
            try clear hcz53_4
            try clear hcz53_5
            try clear hcz53_6
            try clear hcz6_0
            try clear hcz6_1
            try clear hcz6_2
            try clear hcz6_3
            try clear hcz6_4
            try clear hcz6_5
            try clear hcz6_6
            try clear hcz8_0
            try clear hcz8_1
            try clear hcz8_2
            try clear hcz8_3
            try clear hcz8_4
            try clear hcz8_5
            try clear hcz8_6
            try clear hfz13_0
            try clear hfz13_1
            try clear hfz13_2
            try clear hfz13_3
            try clear hfz13_4
            try clear hfz13_5
            try clear hfz13_6
            try clear hfz28_0
            try clear hfz28_1
            try clear hfz28_2
            try clear hfz28_3
            try clear hfz28_4
            try clear hfz28_5
            try clear hfz28_6
            try clear hfz32_0
            try clear hfz32_1
            try clear hfz32_2
            try clear hfz32_3
            try clear hfz32_4
            try clear hfz32_5
            try clear hfz32_6
            try clear hfz38_0
            try clear hfz38_1
            try clear hfz38_2
            try clear hfz38_3
            try clear hfz38_4
            try clear hfz38_5
            try clear hfz38_6
            try clear hfz45_0
            try clear hfz45_1
            try clear hfz45_2
            try clear hfz45_3
            try clear hfz45_4
            try clear hfz45_5
            try clear hfz45_6
            try clear hfz50_0
            try clear hfz50_1
            try clear hfz50_2
            try clear hfz50_3
            try clear hfz50_4
            try clear hfz50_5
            try clear hfz50_6
            try clear hfz53_0
            try clear hfz53_1
            try clear hfz53_2
            try clear hfz53_3
            try clear hfz53_4
            try clear hfz53_5
            try clear hfz53_6
            try clear hfz6_0
            try clear hfz6_1
            try clear hfz6_2
            try clear hfz6_3
            try clear hfz6_4
            try clear hfz6_5
            try clear hfz6_6
            try clear hfz8_0
            try clear hfz8_1
            try clear hfz8_2
            try clear hfz8_3
            try clear hfz8_4
            try clear hfz8_5
            try clear hfz8_6
            try clear BK399
            obtain ⟨x0_4, x70_4, rfl, HA, HK4, HO_0, BK399, HB⟩ := hrel
            cases gk with
            | zero => exact absurd HA.out (by simp [pred_put.l0])
            | succ k4 =>
             have H := HA.out
             clear HA
             simp only [pred_put.l0] at H
             by_cases c54 : x70_4 < (l1_5.length : Int)
             ·rw [if_pos c54] at H
              have c54b0 : decide (x70_4 < (l1_5.length : Int)) = true := decide_eq_true c54
              clear c54
              by_cases c55 : 0 ≤ x70_4
              ·rw [if_pos c55] at H
               have c55b0 : decide (0 ≤ x70_4) = true := decide_eq_true c55
               clear c55
               by_cases c56 : x70_4 < (l1_5.length : Int)
               ·rw [if_pos c56] at H
                have c56b0 : decide (x70_4 < (l1_5.length : Int)) = true := decide_eq_true c56
                clear c56
                replace H := Option.bind_eq_some_iff.mp H
                obtain ⟨t428, A570, H⟩ := H
                replace H : (pred_put.l0 k4 t428 l1_5 (l1_5.length : Int) (wrap64 (x70_4 + 1)) a1_0 a1_1 a1_2 a1_3 a1_4 l1_5 l1_6) = some r := H
                have A57 := Aside0.mk A570
                clear A570
                have H' := Aside0.mk H
                clear H
                have p427 : 0 ≤ (x70_4 : Int) := of_decide_eq_true (by first | (with_reducible assumption) | assumption)
                have q427 : x70_4 < (l1_5.length : Int) := of_decide_eq_true (by first | (with_reducible assumption) | assumption)
                obtain ⟨ad427, e427, hx427_0⟩ := Kd.at_string HR1_5.out x70_4 p427 q427
                cases e427
                replace hx427_0 := (HB.out.cell (World.block_lt_of_cell? w _ hx427_0)).trans hx427_0
                replace p427 := eq_true p427
                replace q427 := eq_true q427
                obtain ⟨Ao58, co58, eo58⟩ := Kd.R_slice HO_0.out
                subst eo58
                go_wp2_with (first | ((with_reducible refine gate_callee (f := 46) rfl ?_); refine goesL_ (some 76) rfl rfl Try.func46 (by kernel_rfl) rfl #[.slice Ao58 x0_4.length co58, .string (rdOf ByteArray.empty l1_5 x70_4)] rfl (by (try simp only [List.map_toArray, List.map_cons, List.map_nil]); first | done | rfl | (simp only [List.length_drop, List.length_take]; rfl)) ?_; (with_reducible refine (varint_PutText.calls k4 _ _ x0_4 (rdOf ByteArray.empty l1_5 x70_4) t428 _ ?side1 ?side2 A57.out).mono ?_); (case side1 => repeat (first | exact (Kd.R_reads' HO_0.out).2.2 | (with_reducible refine Kd.C_alloc ?_ _) | (with_reducible refine Kd.C_drewN ?_ _) | (with_reducible refine Kd.C_drew ?_))); (case side2 => exact (Kd.R_reads' HO_0.out).2.1); rintro e w59 ⟨v429, rfl, ho0, hb⟩; refine ⟨_, rfl, ?_⟩; have n0_ := Aside0.mk (Kd.R_elder' (mR HO_0.out) (Kd.R_base ho0) hb); have n1_ := Aside0.mk (Kd.R_lower (Kd.R_new' ho0 (Kd.R_lt (mR HO_0.out))) (below_size mZ)); have n2_ := Aside0.mk (blk_below (mK BK399.out) hb); have n3_ := Aside0.mk (below_step mZ hb); clear HO_0; clear BK399; clear HB; have HO_0 := n0_; have HO430 := n1_; have BK399 := n2_; have HB := n3_; clear n0_ n1_ n2_ n3_; (try clear hb); (try clear hb2); (try clear hk); (try clear hi); (try clear ho0)))
                go_roundg k4
                case measure => have := HJ3.out; have := HJ32.out; have := HJ40.out; have := HK4.out; omega
                case rel => exact ⟨(t428), (wrap64 (x70_4 + 1)), (by first | rfl | (simp; done) | (simp [*]; done)), H', ⟨by have := HJ3.out; have := HJ32.out; have := HJ40.out; have := HK4.out; omega⟩, ⟨by (with_reducible repeat (first | apply Kd.R_alloc | apply Kd.R_drewN | apply Kd.R_drew)); exact Kd.R_mono HO430.out (fun _ hk => trivial)⟩, ⟨mK BK399.out⟩, ⟨mZ⟩⟩
               ·rw [if_neg c56] at H
                exact absurd H (by simp)
              ·rw [if_neg c55] at H
               exact absurd H (by simp)
             ·rw [if_neg c54] at H
              have c54b0 : decide (x70_4 < (l1_5.length : Int)) = false := decide_eq_false c54
              clear c54
              have H' := Aside0.mk H
              clear H
              go_wp2
              go_meet
              case rel => exact ⟨_, (x0_4), H', ⟨by have := HJ3.out; have := HJ32.out; have := HJ40.out; have := HK4.out; first | omega | exact Nat.le_refl _⟩, ⟨mR HO_0.out⟩, ⟨mK BK399.out⟩, ⟨mZ⟩⟩
          ·rw [if_neg c48] at H
           have c48b0 : (a1_0 == 7) = false := beq_eq_false_iff_ne.mpr c48
           have c48b1 : (a1_0 != 7) = true := bne_iff_ne.mpr c48
           have H' := Aside0.mk H
           clear H
           go_wp2
           go_meet
           case rel => exact ⟨_, (x0_3), H', ⟨by have := HJ3.out; have := HJ32.out; have := HJ40.out; first | omega | exact Nat.le_refl _⟩, ⟨mR HO_0.out⟩, ⟨mK BK399.out⟩, ⟨mZ⟩⟩
   case rest =>
    clear HC31
    try clear c10
    try clear c10b0
    try clear c10b1
    try clear c11
    try clear c16
    try clear c16b0
    try clear c16b1
    try clear c17
    try clear c17b0
    try clear c17b1
    try clear c34
    try clear c34b0
    try clear c34b1
    try clear c35
    try clear c42
    try clear c42b0
    try clear c42b1
    try clear c43
    try clear c48
    try clear c48b0
    try clear c48b1
    try clear c54
    try clear c54b0
    try clear c55
    try clear c55b0
    try clear c56
    try clear c56b0
    try clear hcz13_0
    try clear hcz13_1
    try clear hcz13_2
    try clear hcz13_3
    try clear hcz13_4
    try clear hcz13_5
    try clear hcz13_6
    try clear hcz28_0
    try clear hcz28_1
    try clear hcz28_2
    try clear hcz28_3
    try clear hcz28_4
    try clear hcz28_5
    try clear hcz28_6
    try clear hcz32_0
    try clear hcz32_1
    try clear hcz32_2
    try clear hcz32_3
    try clear hcz32_4
    try clear hcz32_5
    try clear hcz32_6
    try clear hcz38_0
    try clear hcz38_1
    try clear hcz38_2
    try clear hcz38_3
    try clear hcz38_4
    try clear hcz38_5
    try clear hcz38_6
    try clear hcz45_0
    try clear hcz45_1
    try clear hcz45_2
    try clear hcz45_3
    try clear hcz45_4
    try clear hcz45_5
    try clear hcz45_6
    try clear hcz50_0
    try clear hcz50_1
    try clear hcz50_2
    try clear hcz50_3
    try clear hcz50_4
    try clear hcz50_5
    try clear hcz50_6
    try clear hcz53_0
    try clear hcz53_1
    try clear hcz53_2
    try clear hcz53_3
    try clear hcz53_4
    try clear hcz53_5
    try clear hcz53_6
    try clear hcz6_0
    try clear hcz6_1
    try clear hcz6_2
    try clear hcz6_3
    try clear hcz6_4
    try clear hcz6_5
    try clear hcz6_6
    try clear hcz8_0
    try clear hcz8_1
    try clear hcz8_2
    try clear hcz8_3
    try clear hcz8_4
    try clear hcz8_5
    try clear hcz8_6
    try clear hfz13_0
    try clear hfz13_1
    try clear hfz13_2
    try clear hfz13_3
    try clear hfz13_4
    try clear hfz13_5
    try clear hfz13_6
    try clear hfz28_0
    try clear hfz28_1
    try clear hfz28_2
    try clear hfz28_3
    try clear hfz28_4
    try clear hfz28_5
    try clear hfz28_6
    try clear hfz32_0
    try clear hfz32_1
    try clear hfz32_2
    try clear hfz32_3
    try clear hfz32_4
    try clear hfz32_5
    try clear hfz32_6
    try clear hfz38_0
    try clear hfz38_1
    try clear hfz38_2
    try clear hfz38_3
    try clear hfz38_4
    try clear hfz38_5
    try clear hfz38_6
    try clear hfz45_0
    try clear hfz45_1
    try clear hfz45_2
    try clear hfz45_3
    try clear hfz45_4
    try clear hfz45_5
    try clear hfz45_6
    try clear hfz50_0
    try clear hfz50_1
    try clear hfz50_2
    try clear hfz50_3
    try clear hfz50_4
    try clear hfz50_5
    try clear hfz50_6
    try clear hfz53_0
    try clear hfz53_1
    try clear hfz53_2
    try clear hfz53_3
    try clear hfz53_4
    try clear hfz53_5
    try clear hfz53_6
    try clear hfz6_0
    try clear hfz6_1
    try clear hfz6_2
    try clear hfz6_3
    try clear hfz6_4
    try clear hfz6_5
    try clear hfz6_6
    try clear hfz8_0
    try clear hfz8_1
    try clear hfz8_2
    try clear hfz8_3
    try clear hfz8_4
    try clear hfz8_5
    try clear hfz8_6
    try clear hx427_0
    try clear p427
    try clear q427
    obtain ⟨kq, x0_30, HA, HJ30, HO_0, BK399, HB⟩ := hcut
    cases kq with
    | zero => exact absurd HA.out (by simp [pred_put.j5])
    | succ kj30 =>
     have H := HA.out
     clear HA
     simp only [pred_put.j5] at H
     have H' := Aside0.mk H
     clear H
     obtain ⟨hcz60_0, hcz60_1, hcz60_2, hcz60_3, hcz60_4, hcz60_5, hcz60_6, hfz60_0, hfz60_1, hfz60_2, hfz60_3, hfz60_4, hfz60_5, hfz60_6⟩ := cells_7 BK399.out
     go_wp2
     go_loopg [0, 81] kj30 (fun kq v0 v81 w' => ∃ (x0_3 : List Int) (x81_3 : Int), v81 = .int .i64 x81_3 ∧ Aside0 (pred_put.l1 kq x0_3 l1_6 (l1_6.length : Int) x81_3 = some r) ∧ Aside0 (kq ≤ kj30) ∧ Aside0 (Kd.R (Kd.int .u8) 5 w' w.heap.size (fun _ => True) v0 x0_3) ∧ Aside0 (w'.heap[gb399]? = some (.cells #[.int .i64 a1_0, .string a1_1, .int .i64 a1_2, .int .i64 a1_3, .string a1_4, (.slice A1_5 l1_5.length c1_5), (.slice A1_6 l1_6.length c1_6)] 25 (0, 0))) ∧ Aside0 (Below w.heap.size w w'))
     case atStart => exact ⟨(x0_30), (0), (by first | rfl | (simp; done) | (simp [*]; done)), H', ⟨Nat.le_refl _⟩, ⟨mR HO_0.out⟩, ⟨mK BK399.out⟩, ⟨mZ⟩⟩
     case round =>
      clear H'
      try clear c10
      try clear c10b0
      try clear c10b1
      try clear c11
      try clear c16
      try clear c16b0
      try clear c16b1
      try clear c17
      try clear c17b0
      try clear c17b1
      try clear c34
      try clear c34b0
      try clear c34b1
      try clear c35
      try clear c42
      try clear c42b0
      try clear c42b1
      try clear c43
      try clear c48
      try clear c48b0
      try clear c48b1
      try clear c54
      try clear c54b0
      try clear c55
      try clear c55b0
      try clear c56
      try clear c56b0
      try clear hcz13_0
      try clear hcz13_1
      try clear hcz13_2
      try clear hcz13_3
      try clear hcz13_4
      try clear hcz13_5
      try clear hcz13_6
      try clear hcz28_0
      try clear hcz28_1
      try clear hcz28_2
      try clear hcz28_3
      try clear hcz28_4
      try clear hcz28_5
      try clear hcz28_6
      try clear hcz32_0
      try clear hcz32_1
      try clear hcz32_2
      try clear hcz32_3
      try clear hcz32_4
      try clear hcz32_5
      try clear hcz32_6
      try clear hcz38_0
      try clear hcz38_1
      try clear hcz38_2
      try clear hcz38_3
      try clear hcz38_4
      try clear hcz38_5
      try clear hcz38_6
      try clear hcz45_0
      try clear hcz45_1
      try clear hcz45_2
      try clear hcz45_3
      try clear hcz45_4
      try clear hcz45_5
      try clear hcz45_6
      try clear hcz50_0
      try clear hcz50_1
      try clear hcz50_2
      try clear hcz50_3
      try clear hcz50_4
      try clear hcz50_5
      try clear hcz50_6
      try clear hcz53_0
      try clear hcz53_1
      try clear hcz53_2
      try clear hcz53_3
      try clear hcz53_4
      try clear hcz53_5
      try clear hcz53_6
      try clear hcz60_0
      try clear hcz60_1
      try clear hcz60_2
      try clear hcz60_3
      try clear hcz60_4
      try clear hcz60_5
      try clear hcz60_6
      try clear hcz6_0
      try clear hcz6_1
      try clear hcz6_2
      try clear hcz6_3
      try clear hcz6_4
      try clear hcz6_5
      try clear hcz6_6
      try clear hcz8_0
      try clear hcz8_1
      try clear hcz8_2
      try clear hcz8_3
      try clear hcz8_4
      try clear hcz8_5
      try clear hcz8_6
      try clear hfz13_0
      try clear hfz13_1
      try clear hfz13_2
      try clear hfz13_3
      try clear hfz13_4
      try clear hfz13_5
      try clear hfz13_6
      try clear hfz28_0
      try clear hfz28_1
      try clear hfz28_2
      try clear hfz28_3
      try clear hfz28_4
      try clear hfz28_5
      try clear hfz28_6
      try clear hfz32_0
      try clear hfz32_1
      try clear hfz32_2
      try clear hfz32_3
      try clear hfz32_4
      try clear hfz32_5
      try clear hfz32_6
      try clear hfz38_0
      try clear hfz38_1
      try clear hfz38_2
      try clear hfz38_3
      try clear hfz38_4
      try clear hfz38_5
      try clear hfz38_6
      try clear hfz45_0
      try clear hfz45_1
      try clear hfz45_2
      try clear hfz45_3
      try clear hfz45_4
      try clear hfz45_5
      try clear hfz45_6
      try clear hfz50_0
      try clear hfz50_1
      try clear hfz50_2
      try clear hfz50_3
      try clear hfz50_4
      try clear hfz50_5
      try clear hfz50_6
      try clear hfz53_0
      try clear hfz53_1
      try clear hfz53_2
      try clear hfz53_3
      try clear hfz53_4
      try clear hfz53_5
      try clear hfz53_6
      try clear hfz60_0
      try clear hfz60_1
      try clear hfz60_2
      try clear hfz60_3
      try clear hfz60_4
      try clear hfz60_5
      try clear hfz60_6
      try clear hfz6_0
      try clear hfz6_1
      try clear hfz6_2
      try clear hfz6_3
      try clear hfz6_4
      try clear hfz6_5
      try clear hfz6_6
      try clear hfz8_0
      try clear hfz8_1
      try clear hfz8_2
      try clear hfz8_3
      try clear hfz8_4
      try clear hfz8_5
      try clear hfz8_6
      try clear hx427_0
      try clear p427
      try clear q427
      try clear BK399
      obtain ⟨x0_3, x81_3, rfl, HA, HK3, HO_0, BK399, HB⟩ := hrel
      cases gk with
      | zero => exact absurd HA.out (by simp [pred_put.l1])
      | succ k3 =>
       have H := HA.out
       clear HA
       simp only [pred_put.l1] at H
       by_cases c61 : x81_3 < (l1_6.length : Int)
       ·rw [if_pos c61] at H
        have c61b0 : decide (x81_3 < (l1_6.length : Int)) = true := decide_eq_true c61
        clear c61
        by_cases c62 : 0 ≤ x81_3
        ·rw [if_pos c62] at H
         have c62b0 : decide (0 ≤ x81_3) = true := decide_eq_true c62
         clear c62
         by_cases c63 : x81_3 < (l1_6.length : Int)
         ·rw [if_pos c63] at H
          have c63b0 : decide (x81_3 < (l1_6.length : Int)) = true := decide_eq_true c63
          clear c63
          replace H := Option.bind_eq_some_iff.mp H
          obtain ⟨t433, A640, H⟩ := H
          replace H : (pred_put.l1 k3 t433 l1_6 (l1_6.length : Int) (wrap64 (x81_3 + 1))) = some r := H
          have A64 := Aside0.mk A640
          clear A640
          have H' := Aside0.mk H
          clear H
          have p431 : 0 ≤ (x81_3 : Int) := of_decide_eq_true (by first | (with_reducible assumption) | assumption)
          have q431 : x81_3 < (l1_6.length : Int) := of_decide_eq_true (by first | (with_reducible assumption) | assumption)
          obtain ⟨ad431, A431_5, c431_5, A431_6, c431_6, e431, hx431_0, hx431_1, hx431_2, hx431_3, hx431_4, hx431_5, hx431_6, hl431_5, hi431_5, hl431_6, hi431_6⟩ := at_T25 HR1_6.out x81_3 p431 q431
          cases e431
          replace hx431_0 := (HB.out.cell (World.block_lt_of_cell? w _ hx431_0)).trans hx431_0
          replace hx431_1 := (HB.out.cell (World.block_lt_of_cell? w _ hx431_1)).trans hx431_1
          replace hx431_2 := (HB.out.cell (World.block_lt_of_cell? w _ hx431_2)).trans hx431_2
          replace hx431_3 := (HB.out.cell (World.block_lt_of_cell? w _ hx431_3)).trans hx431_3
          replace hx431_4 := (HB.out.cell (World.block_lt_of_cell? w _ hx431_4)).trans hx431_4
          replace hx431_5 := (HB.out.cell (World.block_lt_of_cell? w _ hx431_5)).trans hx431_5
          replace hx431_6 := (HB.out.cell (World.block_lt_of_cell? w _ hx431_6)).trans hx431_6
          have HR431_5 := Aside0.mk hi431_5
          have HC431_5 := Aside0.mk hl431_5
          clear hi431_5 hl431_5
          have HR431_6 := Aside0.mk hi431_6
          have HC431_6 := Aside0.mk hl431_6
          clear hi431_6 hl431_6
          replace p431 := eq_true p431
          replace q431 := eq_true q431
          go_wp2_with (first | ((with_reducible refine gate_dst (N := 8) rfl ?_); refine box_event ?hg (N := 8) ?hd (cs := #[.int .i64 0, .string (⟨#[]⟩ : ByteArray), .int .i64 0, .int .i64 0, .string (⟨#[]⟩ : ByteArray), .slice none 0 0, .slice none 0 0]) (t := 25) ?hr ?_; (case hd => rfl); (case hg => rfl); (case hr => first | (go_simp; done) | (go_simp; rfl)); intro gb432 hg w65 hbox hb; have n0_ := Aside0.mk (Kd.R_below (mR HO_0.out) hb); have n1_ := Aside0.mk (blk_below (mK BK399.out) hb); have n2_ := Aside0.mk (below_step mZ hb); have n3_ := Aside0.mk (hbox); have n4_ := Aside0.mk ((by rw [hg]; exact (below_size mZ) : w.heap.size ≤ gb432)); have n5_ := n4_; have n6_ := Aside0.mk ((by rw [hg]; exact Nat.ne_of_lt (blk_lt (mK BK399.out)) : gb399 ≠ gb432)); have n7_ := Aside0.mk ((by rw [hg]; exact Nat.ne_of_gt (blk_lt (mK BK399.out)) : gb432 ≠ gb399)); clear HO_0; clear BK399; clear HB; have HO_0 := n0_; have BK399 := n1_; have HB := n2_; have BK432 := n3_; have GW432 := n4_; have GE432 := n5_; have NB399_432 := n6_; have NB432_399 := n7_; clear n0_ n1_ n2_ n3_ n4_ n5_ n6_ n7_; clear hb hbox hg; have hnb66 := NB432_399.out; have hnc66 := NB399_432.out; obtain ⟨hcz67_0, hcz67_1, hcz67_2, hcz67_3, hcz67_4, hcz67_5, hcz67_6, hfz67_0, hfz67_1, hfz67_2, hfz67_3, hfz67_4, hfz67_5, hfz67_6⟩ := cells_7 BK432.out; obtain ⟨Ao68, co68, eo68⟩ := Kd.R_slice HO_0.out; subst eo68) | ((with_reducible refine gate_callee (f := 35) rfl ?_); refine goesL_ (some 87) rfl rfl Try.func35 (by kernel_rfl) rfl #[.slice Ao68 x0_3.length co68, .agg #[.int .i64 ((rd_T25 l1_6 x81_3).f0), .string ((rd_T25 l1_6 x81_3).f1), .int .i64 ((rd_T25 l1_6 x81_3).f2), .int .i64 ((rd_T25 l1_6 x81_3).f3), .string ((rd_T25 l1_6 x81_3).f4), .slice A431_5 ((rd_T25 l1_6 x81_3).f5).length c431_5, .slice A431_6 ((rd_T25 l1_6 x81_3).f6).length c431_6]] rfl (by (try simp only [List.map_toArray, List.map_cons, List.map_nil]); first | done | rfl | (simp only [List.length_drop, List.length_take]; rfl)) ?_; (with_reducible refine (ih k3 (by have := HJ3.out; have := HJ30.out; have := HK3.out; omega) _ _ x0_3 ((rd_T25 l1_6 x81_3).f0) ((rd_T25 l1_6 x81_3).f1) ((rd_T25 l1_6 x81_3).f2) ((rd_T25 l1_6 x81_3).f3) ((rd_T25 l1_6 x81_3).f4) _ _ ((rd_T25 l1_6 x81_3).f5) _ _ ((rd_T25 l1_6 x81_3).f6) t433 _ ?side1 ?side2 ?side3 ?side4 ?side5 ?side6 A64.out).mono ?_); (case side1 => refine (Kd.R_reads' (e := 5) (base := w.heap.size) (ok := fun k_ => True) (n := x0_3.length) (c := co68) ?_).2.2; exact (by (with_reducible repeat (first | apply Kd.R_alloc | apply Kd.R_drewN | apply Kd.R_drew)); exact (Kd.R_mono (Kd.R_far (p := ⟨gb432, 6, none⟩) (Kd.R_far (p := ⟨gb432, 5, none⟩) (Kd.R_far (p := ⟨gb432, 4, none⟩) (Kd.R_far (p := ⟨gb432, 3, none⟩) (Kd.R_far (p := ⟨gb432, 2, none⟩) (Kd.R_far (p := ⟨gb432, 1, none⟩) (Kd.R_far (p := ⟨gb432, 0, none⟩) (Kd.R_types HO_0.out BK432.out (by decide)) (fun _ hk => hk.2) (.int .i64 ((rd_T25 l1_6 x81_3).f0))) (fun _ hk => hk.2) (.string ((rd_T25 l1_6 x81_3).f1))) (fun _ hk => hk.2) (.int .i64 ((rd_T25 l1_6 x81_3).f2))) (fun _ hk => hk.2) (.int .i64 ((rd_T25 l1_6 x81_3).f3))) (fun _ hk => hk.2) (.string ((rd_T25 l1_6 x81_3).f4))) (fun _ hk => hk.2) (.slice A431_5 ((rd_T25 l1_6 x81_3).f5).length c431_5)) (fun _ hk => hk.2) (.slice A431_6 ((rd_T25 l1_6 x81_3).f6).length c431_6)) (fun _ h_ => h_.1)))); (case side2 => exact (Kd.R_reads' HO_0.out).2.1); (case side3 => exact Kd.C_below HR431_5.out mZ); (case side4 => first | exact HC431_5.out | exact Kd.V_mono HC431_5.out (fun k_ hk_ => by grind)); (case side5 => exact Kd.C_below HR431_6.out mZ); (case side6 => first | exact HC431_6.out | exact Kd.V_mono HC431_6.out (fun k_ hk_ => by grind)); rintro e w69 ⟨v434, rfl, ho0, hb⟩; refine ⟨_, rfl, ?_⟩; have n0_ := Aside0.mk (Kd.R_elder' (by (with_reducible repeat (first | apply Kd.R_alloc | apply Kd.R_drewN | apply Kd.R_drew)); exact (Kd.R_mono (Kd.R_far (p := ⟨gb432, 6, none⟩) (Kd.R_far (p := ⟨gb432, 5, none⟩) (Kd.R_far (p := ⟨gb432, 4, none⟩) (Kd.R_far (p := ⟨gb432, 3, none⟩) (Kd.R_far (p := ⟨gb432, 2, none⟩) (Kd.R_far (p := ⟨gb432, 1, none⟩) (Kd.R_far (p := ⟨gb432, 0, none⟩) (Kd.R_types HO_0.out BK432.out (by decide)) (fun _ hk => hk.2) (.int .i64 ((rd_T25 l1_6 x81_3).f0))) (fun _ hk => hk.2) (.string ((rd_T25 l1_6 x81_3).f1))) (fun _ hk => hk.2) (.int .i64 ((rd_T25 l1_6 x81_3).f2))) (fun _ hk => hk.2) (.int .i64 ((rd_T25 l1_6 x81_3).f3))) (fun _ hk => hk.2) (.string ((rd_T25 l1_6 x81_3).f4))) (fun _ hk => hk.2) (.slice A431_5 ((rd_T25 l1_6 x81_3).f5).length c431_5)) (fun _ hk => hk.2) (.slice A431_6 ((rd_T25 l1_6 x81_3).f6).length c431_6)) (fun _ h_ => h_.1))) (Kd.R_base ho0) hb); have n1_ := Aside0.mk (Kd.R_lower (Kd.R_new' ho0 (Kd.R_lt (by (with_reducible repeat (first | apply Kd.R_alloc | apply Kd.R_drewN | apply Kd.R_drew)); exact (Kd.R_mono (Kd.R_far (p := ⟨gb432, 6, none⟩) (Kd.R_far (p := ⟨gb432, 5, none⟩) (Kd.R_far (p := ⟨gb432, 4, none⟩) (Kd.R_far (p := ⟨gb432, 3, none⟩) (Kd.R_far (p := ⟨gb432, 2, none⟩) (Kd.R_far (p := ⟨gb432, 1, none⟩) (Kd.R_far (p := ⟨gb432, 0, none⟩) (Kd.R_types HO_0.out BK432.out (by decide)) (fun _ hk => hk.2) (.int .i64 ((rd_T25 l1_6 x81_3).f0))) (fun _ hk => hk.2) (.string ((rd_T25 l1_6 x81_3).f1))) (fun _ hk => hk.2) (.int .i64 ((rd_T25 l1_6 x81_3).f2))) (fun _ hk => hk.2) (.int .i64 ((rd_T25 l1_6 x81_3).f3))) (fun _ hk => hk.2) (.string ((rd_T25 l1_6 x81_3).f4))) (fun _ hk => hk.2) (.slice A431_5 ((rd_T25 l1_6 x81_3).f5).length c431_5)) (fun _ hk => hk.2) (.slice A431_6 ((rd_T25 l1_6 x81_3).f6).length c431_6)) (fun _ h_ => h_.1))))) (below_size mZ)); have n2_ := Aside0.mk (blk_below (g := gb399) (o := .cells #[.int .i64 a1_0, .string a1_1, .int .i64 a1_2, .int .i64 a1_3, .string a1_4, .slice A1_5 l1_5.length c1_5, .slice (some ad431) l1_6.length c1_6] 25 (0, 0)) (by (with_reducible repeat (first | refine blk_drewN ?_ _ | refine blk_drew ?_ | refine blk_alloc ?_ _)); refine blk_far ?_ NB399_432.out _; refine blk_far ?_ NB399_432.out _; refine blk_far ?_ NB399_432.out _; refine blk_far ?_ NB399_432.out _; refine blk_far ?_ NB399_432.out _; refine blk_far ?_ NB399_432.out _; refine blk_far ?_ NB399_432.out _; (with_reducible repeat (first | refine blk_drewN ?_ _ | refine blk_drew ?_ | refine blk_alloc ?_ _)); exact BK399.out) hb); have n3_ := Aside0.mk (blk_below (g := gb432) (o := .cells #[.int .i64 ((rd_T25 l1_6 x81_3).f0), .string ((rd_T25 l1_6 x81_3).f1), .int .i64 ((rd_T25 l1_6 x81_3).f2), .int .i64 ((rd_T25 l1_6 x81_3).f3), .string ((rd_T25 l1_6 x81_3).f4), .slice A431_5 ((rd_T25 l1_6 x81_3).f5).length c431_5, .slice A431_6 ((rd_T25 l1_6 x81_3).f6).length c431_6] 25 (0, 0)) (by (with_reducible repeat (first | refine blk_drewN ?_ _ | refine blk_drew ?_ | refine blk_alloc ?_ _)); apply puts_7; (with_reducible repeat (first | refine blk_drewN ?_ _ | refine blk_drew ?_ | refine blk_alloc ?_ _)); exact BK432.out) hb); have n4_ := Aside0.mk (below_step mZ hb); clear HO_0; clear BK399; clear BK432; clear HB; have HO_0 := n0_; have HO435 := n1_; have BK399 := n2_; have BK432 := n3_; have HB := n4_; clear n0_ n1_ n2_ n3_ n4_; (try clear hb); (try clear hb2); (try clear hk); (try clear hi); (try clear ho0)))
          go_roundg k3
          case measure => have := HJ3.out; have := HJ30.out; have := HK3.out; omega
          case rel => exact ⟨(t433), (wrap64 (x81_3 + 1)), (by first | rfl | (simp; done) | (simp [*]; done)), H', ⟨by have := HJ3.out; have := HJ30.out; have := HK3.out; omega⟩, ⟨by (with_reducible repeat (first | apply Kd.R_alloc | apply Kd.R_drewN | apply Kd.R_drew)); exact Kd.R_mono HO435.out (fun _ hk => trivial)⟩, ⟨mK BK399.out⟩, ⟨mZ⟩⟩
         ·rw [if_neg c63] at H
          exact absurd H (by simp)
        ·rw [if_neg c62] at H
         exact absurd H (by simp)
       ·rw [if_neg c61] at H
        have c61b0 : decide (x81_3 < (l1_6.length : Int)) = false := decide_eq_false c61
        clear c61
        obtain rfl := Option.some.inj H
        go_wp2
        go_ret
        exact ⟨_, by first | rfl | (simp [errW_none, errW_some] <;> rfl) | (simp [*, errW_none, errW_some] <;> rfl), mR HO_0.out, mZ⟩

end Go.Proofs.Ytalpcnomfebdiaa.QPredLimits
