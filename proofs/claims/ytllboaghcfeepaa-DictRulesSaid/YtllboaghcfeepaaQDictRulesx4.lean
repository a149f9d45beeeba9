-- Written by a program of this session (wip/myprint.py): the machine's side of a law
import Derived.Test.YtllboaghcfeepaaQDictRulesx0
import Derived.Test.YtllboaghcfeepaaQDictRulesx1
import Derived.Test.YtllboaghcfeepaaQDictRulesx2
import Derived.Test.YtllboaghcfeepaaQDictRulesx3
namespace Go.Proofs.Ytllboaghcfeepaa.QDictRules
open Go.RowKit Go.Proofs.YtllboaghcfeepaaW.PrintWords Go.Proofs.YtllboaghcfeepaaW.PrintLast Go.Proofs.YtllboaghcfeepaaW.PrintMore
attribute [local go_sem] max2_int min2_int max_two min_two max_three min_three max_four min_four   -- for this text's walks alone
set_option linter.unusedVariables false
set_option linter.unusedSimpArgs false

/-! ### columbariumlaw7_DictRules: function 4 -/
mutual
def columbariumlaw7_DictRules.j0 : Nat → List ByteArray → List ByteArray → ByteArray → List ByteArray → List Int → Bool → Option (Bool)
  | 0, _, _, _, _, _, _ => none
  | k + 1, x0, x1, x2, x7, x8, x40 => if x40 = true then (some false) else (columbariumlaw7_DictRules.l0 k x0 x1 x2 x7 x8 0)
def columbariumlaw7_DictRules.l0 : Nat → List ByteArray → List ByteArray → ByteArray → List ByteArray → List Int → Int → Option (Bool)
  | 0, _, _, _, _, _, _ => none
  | k + 1, x0, x1, x2, x7, x8, x9 => if x9 < (x0.length : Int) then (if 0 ≤ x9 then (if x9 < (x8.length : Int) then (if (rd x8 x9) < 0 then (some false) else (if (rd x8 x9) ≥ (x7.length : Int) then (some false) else (if 0 ≤ (rd x8 x9) then (if (rd x8 x9) < (x7.length : Int) then (if (rdOf ByteArray.empty x7 (rd x8 x9)).toList = (rdOf ByteArray.empty x0 x9).toList then (columbariumlaw7_DictRules.l0 k x0 x1 x2 x7 x8 (wrap64 (x9 + 1))) else (some false)) else (none)) else (none)))) else (none)) else (none)) else ((dict_From.f k x7 x2).bind fun bt204 => (if bt204.1 < 0 then (columbariumlaw7_DictRules.j2 k x1 x2 x7 bt204.1 bt204.2 true) else (if bt204.1 > bt204.2 then (columbariumlaw7_DictRules.j2 k x1 x2 x7 bt204.1 bt204.2 true) else (columbariumlaw7_DictRules.j2 k x1 x2 x7 bt204.1 bt204.2 (decide (bt204.2 > (x7.length : Int)))))))
def columbariumlaw7_DictRules.j2 : Nat → List ByteArray → ByteArray → List ByteArray → Int → Int → Bool → Option (Bool)
  | 0, _, _, _, _, _, _ => none
  | k + 1, x1, x2, x7, x10, x11, x93 => if x93 = true then (some false) else (columbariumlaw7_DictRules.l1 k x1 x2 x7 x10 x11 0)
def columbariumlaw7_DictRules.l1 : Nat → List ByteArray → ByteArray → List ByteArray → Int → Int → Int → Option (Bool)
  | 0, _, _, _, _, _, _ => none
  | k + 1, x1, x2, x7, x10, x11, x12 => if x12 < (x7.length : Int) then (if x12 > 0 then (if 0 ≤ (wrap64 (x12 - 1)) then (if (wrap64 (x12 - 1)) < (x7.length : Int) then (if 0 ≤ x12 then (columbariumlaw7_DictRules.j4 k x1 x2 x7 x10 x11 x12 (!(Op.bytesLess ((rdOf ByteArray.empty x7 (wrap64 (x12 - 1))).toList) ((rdOf ByteArray.empty x7 x12).toList)))) else (none)) else (none)) else (none)) else (columbariumlaw7_DictRules.j4 k x1 x2 x7 x10 x11 x12 false)) else ((columbariumlaw7_few.f k x1).bind fun t213 => ((dict_Build.f k t213).bind fun bt216 => ((dict_Merge.f k (([x7, bt216.1] : List (List ByteArray)))).bind fun bt225 => (if (bt225.2.length : Int) = 2 then (if 0 < (bt225.2.length : Int) then (if ((rd_L3 bt225.2 0).length : Int) = (x7.length : Int) then (if 1 < (bt225.2.length : Int) then (if ((rd_L3 bt225.2 1).length : Int) = (bt216.1.length : Int) then (columbariumlaw7_DictRules.j5 k x7 bt216.1 bt225.1 bt225.2 (decide ((bt225.1.length : Int) > (wrap64 ((x7.length : Int) + (bt216.1.length : Int)))))) else (columbariumlaw7_DictRules.j5 k x7 bt216.1 bt225.1 bt225.2 true)) else (none)) else (columbariumlaw7_DictRules.j5 k x7 bt216.1 bt225.1 bt225.2 true)) else (none)) else (columbariumlaw7_DictRules.j5 k x7 bt216.1 bt225.1 bt225.2 true)))))
def columbariumlaw7_DictRules.j4 : Nat → List ByteArray → ByteArray → List ByteArray → Int → Int → Int → Bool → Option (Bool)
  | 0, _, _, _, _, _, _, _ => none
  | k + 1, x1, x2, x7, x10, x11, x12, x113 => if x113 = true then (some false) else (if 0 ≤ x12 then (if x12 < (x7.length : Int) then ((dict_Find.f k x7 (rdOf ByteArray.empty x7 x12)).bind fun bt209 => (if ((rdOf ByteArray.empty x7 x12).size : Int) ≥ (x2.size : Int) then (if 0 ≤ (x2.size : Int) then (if (x2.size : Int) ≤ ((rdOf ByteArray.empty x7 x12).size : Int) then (if bt209.2 = true then (if bt209.1 = x12 then (if x12 ≥ x10 then (if ((((rdOf ByteArray.empty x7 x12).extract 0 ((x2.size : Int) : Int).toNat).toList == x2.toList) != (decide (x12 < x11))) = true then (some false) else (columbariumlaw7_DictRules.l1 k x1 x2 x7 x10 x11 (wrap64 (x12 + 1)))) else (if ((((rdOf ByteArray.empty x7 x12).extract 0 ((x2.size : Int) : Int).toNat).toList == x2.toList) != false) = true then (some false) else (columbariumlaw7_DictRules.l1 k x1 x2 x7 x10 x11 (wrap64 (x12 + 1))))) else (some false)) else (some false)) else (none)) else (none)) else (if bt209.2 = true then (if bt209.1 = x12 then (if x12 ≥ x10 then (if (false != (decide (x12 < x11))) = true then (some false) else (columbariumlaw7_DictRules.l1 k x1 x2 x7 x10 x11 (wrap64 (x12 + 1)))) else (if (false != false) = true then (some false) else (columbariumlaw7_DictRules.l1 k x1 x2 x7 x10 x11 (wrap64 (x12 + 1))))) else (some false)) else (some false)))) else (none)) else (none))
def columbariumlaw7_DictRules.j5 : Nat → List ByteArray → List ByteArray → List ByteArray → List (List Int) → Bool → Option (Bool)
  | 0, _, _, _, _, _ => none
  | k + 1, x7, x16, x18, x19, x204 => if x204 = true then (some false) else (columbariumlaw7_DictRules.l2 k x7 x16 x18 x19 0)
def columbariumlaw7_DictRules.l2 : Nat → List ByteArray → List ByteArray → List ByteArray → List (List Int) → Int → Option (Bool)
  | 0, _, _, _, _, _ => none
  | k + 1, x7, x16, x18, x19, x20 => if x20 < (x7.length : Int) then (if 0 < (x19.length : Int) then (if 0 ≤ x20 then (if x20 < ((rd_L3 x19 0).length : Int) then (if (rd (rd_L3 x19 0) x20) < 0 then (some false) else (if (rd (rd_L3 x19 0) x20) ≥ (x18.length : Int) then (some false) else (if 0 ≤ (rd (rd_L3 x19 0) x20) then (if (rd (rd_L3 x19 0) x20) < (x18.length : Int) then (if (rdOf ByteArray.empty x18 (rd (rd_L3 x19 0) x20)).toList = (rdOf ByteArray.empty x7 x20).toList then (columbariumlaw7_DictRules.l2 k x7 x16 x18 x19 (wrap64 (x20 + 1))) else (some false)) else (none)) else (none)))) else (none)) else (none)) else (none)) else (columbariumlaw7_DictRules.l3 k x16 x18 x19 0)
def columbariumlaw7_DictRules.l3 : Nat → List ByteArray → List ByteArray → List (List Int) → Int → Option (Bool)
  | 0, _, _, _, _ => none
  | k + 1, x16, x18, x19, x21 => if x21 < (x16.length : Int) then (if 1 < (x19.length : Int) then (if 0 ≤ x21 then (if x21 < ((rd_L3 x19 1).length : Int) then (if (rd (rd_L3 x19 1) x21) < 0 then (some false) else (if (rd (rd_L3 x19 1) x21) ≥ (x18.length : Int) then (some false) else (if 0 ≤ (rd (rd_L3 x19 1) x21) then (if (rd (rd_L3 x19 1) x21) < (x18.length : Int) then (if (rdOf ByteArray.empty x18 (rd (rd_L3 x19 1) x21)).toList = (rdOf ByteArray.empty x16 x21).toList then (columbariumlaw7_DictRules.l3 k x16 x18 x19 (wrap64 (x21 + 1))) else (some false)) else (none)) else (none)))) else (none)) else (none)) else (none)) else ((columbariumlaw7_known.f k).bind fun t249 => (some t249))
end
def columbariumlaw7_DictRules.f (k : Nat) (l0 : List ByteArray) (l1 : List ByteArray) (a2 : ByteArray) : Option (Bool) := (columbariumlaw7_few.f k l0).bind fun t190 => ((dict_Build.f k t190).bind fun bt193 => (if (bt193.2.length : Int) = (t190.length : Int) then (columbariumlaw7_DictRules.j0 k t190 l1 a2 bt193.1 bt193.2 (decide ((bt193.1.length : Int) > (t190.length : Int)))) else (columbariumlaw7_DictRules.j0 k t190 l1 a2 bt193.1 bt193.2 true)))
theorem columbariumlaw7_DictRules.mono_l : ∀ k, (∀ y0 y1 y2 y3 y4 y5, LeO (columbariumlaw7_DictRules.j0 k y0 y1 y2 y3 y4 y5) (columbariumlaw7_DictRules.j0 (k + 1) y0 y1 y2 y3 y4 y5)) ∧ (∀ y0 y1 y2 y3 y4 y5, LeO (columbariumlaw7_DictRules.l0 k y0 y1 y2 y3 y4 y5) (columbariumlaw7_DictRules.l0 (k + 1) y0 y1 y2 y3 y4 y5)) ∧ (∀ y0 y1 y2 y3 y4 y5, LeO (columbariumlaw7_DictRules.j2 k y0 y1 y2 y3 y4 y5) (columbariumlaw7_DictRules.j2 (k + 1) y0 y1 y2 y3 y4 y5)) ∧ (∀ y0 y1 y2 y3 y4 y5, LeO (columbariumlaw7_DictRules.l1 k y0 y1 y2 y3 y4 y5) (columbariumlaw7_DictRules.l1 (k + 1) y0 y1 y2 y3 y4 y5)) ∧ (∀ y0 y1 y2 y3 y4 y5 y6, LeO (columbariumlaw7_DictRules.j4 k y0 y1 y2 y3 y4 y5 y6) (columbariumlaw7_DictRules.j4 (k + 1) y0 y1 y2 y3 y4 y5 y6)) ∧ (∀ y0 y1 y2 y3 y4, LeO (columbariumlaw7_DictRules.j5 k y0 y1 y2 y3 y4) (columbariumlaw7_DictRules.j5 (k + 1) y0 y1 y2 y3 y4)) ∧ (∀ y0 y1 y2 y3 y4, LeO (columbariumlaw7_DictRules.l2 k y0 y1 y2 y3 y4) (columbariumlaw7_DictRules.l2 (k + 1) y0 y1 y2 y3 y4)) ∧ (∀ y0 y1 y2 y3, LeO (columbariumlaw7_DictRules.l3 k y0 y1 y2 y3) (columbariumlaw7_DictRules.l3 (k + 1) y0 y1 y2 y3))
  | 0 => ⟨fun _ _ _ _ _ _ r h => by simp [columbariumlaw7_DictRules.j0] at h, fun _ _ _ _ _ _ r h => by simp [columbariumlaw7_DictRules.l0] at h, fun _ _ _ _ _ _ r h => by simp [columbariumlaw7_DictRules.j2] at h, fun _ _ _ _ _ _ r h => by simp [columbariumlaw7_DictRules.l1] at h, fun _ _ _ _ _ _ _ r h => by simp [columbariumlaw7_DictRules.j4] at h, fun _ _ _ _ _ r h => by simp [columbariumlaw7_DictRules.j5] at h, fun _ _ _ _ _ r h => by simp [columbariumlaw7_DictRules.l2] at h, fun _ _ _ _ r h => by simp [columbariumlaw7_DictRules.l3] at h⟩
  | k + 1 => by
    obtain ⟨ih0, ih1, ih2, ih3, ih4, ih5, ih6, ih7⟩ := columbariumlaw7_DictRules.mono_l k
    refine ⟨?_, ?_, ?_, ?_, ?_, ?_, ?_, ?_⟩
    · intro y0 y1 y2 y3 y4 y5
      unfold columbariumlaw7_DictRules.j0
      repeat' first
      | (with_reducible exact ih0 _ _ _ _ _ _)
      | (with_reducible exact ih1 _ _ _ _ _ _)
      | (with_reducible exact ih2 _ _ _ _ _ _)
      | (with_reducible exact ih3 _ _ _ _ _ _)
      | (with_reducible exact ih4 _ _ _ _ _ _ _)
      | (with_reducible exact ih5 _ _ _ _ _)
      | (with_reducible exact ih6 _ _ _ _ _)
      | (with_reducible exact ih7 _ _ _ _)
      | (with_reducible exact columbariumlaw7_few.mono _ _)
      | (with_reducible exact columbariumlaw7_known.mono _)
      | (with_reducible exact dict_Build.mono _ _)
      | (with_reducible exact dict_Find.mono _ _ _)
      | (with_reducible exact dict_From.mono _ _ _)
      | (with_reducible exact dict_Merge.mono _ _)
      | (with_reducible exact LeO.refl _)
      | (with_reducible exact LeO.none _)
      | (with_reducible refine LeO.ite ?_ ?_)
      | (with_reducible refine LeO.bind ?_ (fun _ => ?_))
      | exact ih0 _ _ _ _ _ _
      | exact ih1 _ _ _ _ _ _
      | exact ih2 _ _ _ _ _ _
      | exact ih3 _ _ _ _ _ _
      | exact ih4 _ _ _ _ _ _ _
      | exact ih5 _ _ _ _ _
      | exact ih6 _ _ _ _ _
      | exact ih7 _ _ _ _
      | exact columbariumlaw7_few.mono _ _
      | exact columbariumlaw7_known.mono _
      | exact dict_Build.mono _ _
      | exact dict_Find.mono _ _ _
      | exact dict_From.mono _ _ _
      | exact dict_Merge.mono _ _
      | exact LeO.none _
      | refine LeO.ite ?_ ?_
      | refine LeO.bind ?_ (fun _ => ?_)
    · intro y0 y1 y2 y3 y4 y5
      unfold columbariumlaw7_DictRules.l0
      repeat' first
      | (with_reducible exact ih0 _ _ _ _ _ _)
      | (with_reducible exact ih1 _ _ _ _ _ _)
      | (with_reducible exact ih2 _ _ _ _ _ _)
      | (with_reducible exact ih3 _ _ _ _ _ _)
      | (with_reducible exact ih4 _ _ _ _ _ _ _)
      | (with_reducible exact ih5 _ _ _ _ _)
      | (with_reducible exact ih6 _ _ _ _ _)
      | (with_reducible exact ih7 _ _ _ _)
      | (with_reducible exact columbariumlaw7_few.mono _ _)
      | (with_reducible exact columbariumlaw7_known.mono _)
      | (with_reducible exact dict_Build.mono _ _)
      | (with_reducible exact dict_Find.mono _ _ _)
      | (with_reducible exact dict_From.mono _ _ _)
      | (with_reducible exact dict_Merge.mono _ _)
      | (with_reducible exact LeO.refl _)
      | (with_reducible exact LeO.none _)
      | (with_reducible refine LeO.ite ?_ ?_)
      | (with_reducible refine LeO.bind ?_ (fun _ => ?_))
      | exact ih0 _ _ _ _ _ _
      | exact ih1 _ _ _ _ _ _
      | exact ih2 _ _ _ _ _ _
      | exact ih3 _ _ _ _ _ _
      | exact ih4 _ _ _ _ _ _ _
      | exact ih5 _ _ _ _ _
      | exact ih6 _ _ _ _ _
      | exact ih7 _ _ _ _
      | exact columbariumlaw7_few.mono _ _
      | exact columbariumlaw7_known.mono _
      | exact dict_Build.mono _ _
      | exact dict_Find.mono _ _ _
      | exact dict_From.mono _ _ _
      | exact dict_Merge.mono _ _
      | exact LeO.none _
      | refine LeO.ite ?_ ?_
      | refine LeO.bind ?_ (fun _ => ?_)
    · intro y0 y1 y2 y3 y4 y5
      unfold columbariumlaw7_DictRules.j2
      repeat' first
      | (with_reducible exact ih0 _ _ _ _ _ _)
      | (with_reducible exact ih1 _ _ _ _ _ _)
      | (with_reducible exact ih2 _ _ _ _ _ _)
      | (with_reducible exact ih3 _ _ _ _ _ _)
      | (with_reducible exact ih4 _ _ _ _ _ _ _)
      | (with_reducible exact ih5 _ _ _ _ _)
      | (with_reducible exact ih6 _ _ _ _ _)
      | (with_reducible exact ih7 _ _ _ _)
      | (with_reducible exact columbariumlaw7_few.mono _ _)
      | (with_reducible exact columbariumlaw7_known.mono _)
      | (with_reducible exact dict_Build.mono _ _)
      | (with_reducible exact dict_Find.mono _ _ _)
      | (with_reducible exact dict_From.mono _ _ _)
      | (with_reducible exact dict_Merge.mono _ _)
      | (with_reducible exact LeO.refl _)
      | (with_reducible exact LeO.none _)
      | (with_reducible refine LeO.ite ?_ ?_)
      | (with_reducible refine LeO.bind ?_ (fun _ => ?_))
      | exact ih0 _ _ _ _ _ _
      | exact ih1 _ _ _ _ _ _
      | exact ih2 _ _ _ _ _ _
      | exact ih3 _ _ _ _ _ _
      | exact ih4 _ _ _ _ _ _ _
      | exact ih5 _ _ _ _ _
      | exact ih6 _ _ _ _ _
      | exact ih7 _ _ _ _
      | exact columbariumlaw7_few.mono _ _
      | exact columbariumlaw7_known.mono _
      | exact dict_Build.mono _ _
      | exact dict_Find.mono _ _ _
      | exact dict_From.mono _ _ _
      | exact dict_Merge.mono _ _
      | exact LeO.none _
      | refine LeO.ite ?_ ?_
      | refine LeO.bind ?_ (fun _ => ?_)
    · intro y0 y1 y2 y3 y4 y5
      unfold columbariumlaw7_DictRules.l1
      repeat' first
      | (with_reducible exact ih0 _ _ _ _ _ _)
      | (with_reducible exact ih1 _ _ _ _ _ _)
      | (with_reducible exact ih2 _ _ _ _ _ _)
      | (with_reducible exact ih3 _ _ _ _ _ _)
      | (with_reducible exact ih4 _ _ _ _ _ _ _)
      | (with_reducible exact ih5 _ _ _ _ _)
      | (with_reducible exact ih6 _ _ _ _ _)
      | (with_reducible exact ih7 _ _ _ _)
      | (with_reducible exact columbariumlaw7_few.mono _ _)
      | (with_reducible exact columbariumlaw7_known.mono _)
      | (with_reducible exact dict_Build.mono _ _)
      | (with_reducible exact dict_Find.mono _ _ _)
      | (with_reducible exact dict_From.mono _ _ _)
      | (with_reducible exact dict_Merge.mono _ _)
      | (with_reducible exact LeO.refl _)
      | (with_reducible exact LeO.none _)
      | (with_reducible refine LeO.ite ?_ ?_)
      | (with_reducible refine LeO.bind ?_ (fun _ => ?_))
      | exact ih0 _ _ _ _ _ _
      | exact ih1 _ _ _ _ _ _
      | exact ih2 _ _ _ _ _ _
      | exact ih3 _ _ _ _ _ _
      | exact ih4 _ _ _ _ _ _ _
      | exact ih5 _ _ _ _ _
      | exact ih6 _ _ _ _ _
      | exact ih7 _ _ _ _
      | exact columbariumlaw7_few.mono _ _
      | exact columbariumlaw7_known.mono _
      | exact dict_Build.mono _ _
      | exact dict_Find.mono _ _ _
      | exact dict_From.mono _ _ _
      | exact dict_Merge.mono _ _
      | exact LeO.none _
      | refine LeO.ite ?_ ?_
      | refine LeO.bind ?_ (fun _ => ?_)
    · intro y0 y1 y2 y3 y4 y5 y6
      unfold columbariumlaw7_DictRules.j4
      repeat' first
      | (with_reducible exact ih0 _ _ _ _ _ _)
      | (with_reducible exact ih1 _ _ _ _ _ _)
      | (with_reducible exact ih2 _ _ _ _ _ _)
      | (with_reducible exact ih3 _ _ _ _ _ _)
      | (with_reducible exact ih4 _ _ _ _ _ _ _)
      | (with_reducible exact ih5 _ _ _ _ _)
      | (with_reducible exact ih6 _ _ _ _ _)
      | (with_reducible exact ih7 _ _ _ _)
      | (with_reducible exact columbariumlaw7_few.mono _ _)
      | (with_reducible exact columbariumlaw7_known.mono _)
      | (with_reducible exact dict_Build.mono _ _)
      | (with_reducible exact dict_Find.mono _ _ _)
      | (with_reducible exact dict_From.mono _ _ _)
      | (with_reducible exact dict_Merge.mono _ _)
      | (with_reducible exact LeO.refl _)
      | (with_reducible exact LeO.none _)
      | (with_reducible refine LeO.ite ?_ ?_)
      | (with_reducible refine LeO.bind ?_ (fun _ => ?_))
      | exact ih0 _ _ _ _ _ _
      | exact ih1 _ _ _ _ _ _
      | exact ih2 _ _ _ _ _ _
      | exact ih3 _ _ _ _ _ _
      | exact ih4 _ _ _ _ _ _ _
      | exact ih5 _ _ _ _ _
      | exact ih6 _ _ _ _ _
      | exact ih7 _ _ _ _
      | exact columbariumlaw7_few.mono _ _
      | exact columbariumlaw7_known.mono _
      | exact dict_Build.mono _ _
      | exact dict_Find.mono _ _ _
      | exact dict_From.mono _ _ _
      | exact dict_Merge.mono _ _
      | exact LeO.none _
      | refine LeO.ite ?_ ?_
      | refine LeO.bind ?_ (fun _ => ?_)
    · intro y0 y1 y2 y3 y4
      unfold columbariumlaw7_DictRules.j5
      repeat' first
      | (with_reducible exact ih0 _ _ _ _ _ _)
      | (with_reducible exact ih1 _ _ _ _ _ _)
      | (with_reducible exact ih2 _ _ _ _ _ _)
      | (with_reducible exact ih3 _ _ _ _ _ _)
      | (with_reducible exact ih4 _ _ _ _ _ _ _)
      | (with_reducible exact ih5 _ _ _ _ _)
      | (with_reducible exact ih6 _ _ _ _ _)
      | (with_reducible exact ih7 _ _ _ _)
      | (with_reducible exact columbariumlaw7_few.mono _ _)
      | (with_reducible exact columbariumlaw7_known.mono _)
      | (with_reducible exact dict_Build.mono _ _)
      | (with_reducible exact dict_Find.mono _ _ _)
      | (with_reducible exact dict_From.mono _ _ _)
      | (with_reducible exact dict_Merge.mono _ _)
      | (with_reducible exact LeO.refl _)
      | (with_reducible exact LeO.none _)
      | (with_reducible refine LeO.ite ?_ ?_)
      | (with_reducible refine LeO.bind ?_ (fun _ => ?_))
      | exact ih0 _ _ _ _ _ _
      | exact ih1 _ _ _ _ _ _
      | exact ih2 _ _ _ _ _ _
      | exact ih3 _ _ _ _ _ _
      | exact ih4 _ _ _ _ _ _ _
      | exact ih5 _ _ _ _ _
      | exact ih6 _ _ _ _ _
      | exact ih7 _ _ _ _
      | exact columbariumlaw7_few.mono _ _
      | exact columbariumlaw7_known.mono _
      | exact dict_Build.mono _ _
      | exact dict_Find.mono _ _ _
      | exact dict_From.mono _ _ _
      | exact dict_Merge.mono _ _
      | exact LeO.none _
      | refine LeO.ite ?_ ?_
      | refine LeO.bind ?_ (fun _ => ?_)
    · intro y0 y1 y2 y3 y4
      unfold columbariumlaw7_DictRules.l2
      repeat' first
      | (with_reducible exact ih0 _ _ _ _ _ _)
      | (with_reducible exact ih1 _ _ _ _ _ _)
      | (with_reducible exact ih2 _ _ _ _ _ _)
      | (with_reducible exact ih3 _ _ _ _ _ _)
      | (with_reducible exact ih4 _ _ _ _ _ _ _)
      | (with_reducible exact ih5 _ _ _ _ _)
      | (with_reducible exact ih6 _ _ _ _ _)
      | (with_reducible exact ih7 _ _ _ _)
      | (with_reducible exact columbariumlaw7_few.mono _ _)
      | (with_reducible exact columbariumlaw7_known.mono _)
      | (with_reducible exact dict_Build.mono _ _)
      | (with_reducible exact dict_Find.mono _ _ _)
      | (with_reducible exact dict_From.mono _ _ _)
      | (with_reducible exact dict_Merge.mono _ _)
      | (with_reducible exact LeO.refl _)
      | (with_reducible exact LeO.none _)
      | (with_reducible refine LeO.ite ?_ ?_)
      | (with_reducible refine LeO.bind ?_ (fun _ => ?_))
      | exact ih0 _ _ _ _ _ _
      | exact ih1 _ _ _ _ _ _
      | exact ih2 _ _ _ _ _ _
      | exact ih3 _ _ _ _ _ _
      | exact ih4 _ _ _ _ _ _ _
      | exact ih5 _ _ _ _ _
      | exact ih6 _ _ _ _ _
      | exact ih7 _ _ _ _
      | exact columbariumlaw7_few.mono _ _
      | exact columbariumlaw7_known.mono _
      | exact dict_Build.mono _ _
      | exact dict_Find.mono _ _ _
      | exact dict_From.mono _ _ _
      | exact dict_Merge.mono _ _
      | exact LeO.none _
      | refine LeO.ite ?_ ?_
      | refine LeO.bind ?_ (fun _ => ?_)
    · intro y0 y1 y2 y3
      unfold columbariumlaw7_DictRules.l3
      repeat' first
      | (with_reducible exact ih0 _ _ _ _ _ _)
      | (with_reducible exact ih1 _ _ _ _ _ _)
      | (with_reducible exact ih2 _ _ _ _ _ _)
      | (with_reducible exact ih3 _ _ _ _ _ _)
      | (with_reducible exact ih4 _ _ _ _ _ _ _)
      | (with_reducible exact ih5 _ _ _ _ _)
      | (with_reducible exact ih6 _ _ _ _ _)
      | (with_reducible exact ih7 _ _ _ _)
      | (with_reducible exact columbariumlaw7_few.mono _ _)
      | (with_reducible exact columbariumlaw7_known.mono _)
      | (with_reducible exact dict_Build.mono _ _)
      | (with_reducible exact dict_Find.mono _ _ _)
      | (with_reducible exact dict_From.mono _ _ _)
      | (with_reducible exact dict_Merge.mono _ _)
      | (with_reducible exact LeO.refl _)
      | (with_reducible exact LeO.none _)
      | (with_reducible refine LeO.ite ?_ ?_)
      | (with_reducible refine LeO.bind ?_ (fun _ => ?_))
      | exact ih0 _ _ _ _ _ _
      | exact ih1 _ _ _ _ _ _
      | exact ih2 _ _ _ _ _ _
      | exact ih3 _ _ _ _ _ _
      | exact ih4 _ _ _ _ _ _ _
      | exact ih5 _ _ _ _ _
      | exact ih6 _ _ _ _ _
      | exact ih7 _ _ _ _
      | exact columbariumlaw7_few.mono _ _
      | exact columbariumlaw7_known.mono _
      | exact dict_Build.mono _ _
      | exact dict_Find.mono _ _ _
      | exact dict_From.mono _ _ _
      | exact dict_Merge.mono _ _
      | exact LeO.none _
      | refine LeO.ite ?_ ?_
      | refine LeO.bind ?_ (fun _ => ?_)
theorem columbariumlaw7_DictRules.mono : ∀ a0 a1 a2 k, LeO (columbariumlaw7_DictRules.f k a0 a1 a2) (columbariumlaw7_DictRules.f (k + 1) a0 a1 a2) := by
  intro a0 a1 a2 k
  obtain ⟨ih0, ih1, ih2, ih3, ih4, ih5, ih6, ih7⟩ := columbariumlaw7_DictRules.mono_l k
  unfold columbariumlaw7_DictRules.f
  repeat' first
      | (with_reducible exact ih0 _ _ _ _ _ _)
      | (with_reducible exact ih1 _ _ _ _ _ _)
      | (with_reducible exact ih2 _ _ _ _ _ _)
      | (with_reducible exact ih3 _ _ _ _ _ _)
      | (with_reducible exact ih4 _ _ _ _ _ _ _)
      | (with_reducible exact ih5 _ _ _ _ _)
      | (with_reducible exact ih6 _ _ _ _ _)
      | (with_reducible exact ih7 _ _ _ _)
      | (with_reducible exact columbariumlaw7_few.mono _ _)
      | (with_reducible exact columbariumlaw7_known.mono _)
      | (with_reducible exact dict_Build.mono _ _)
      | (with_reducible exact dict_Find.mono _ _ _)
      | (with_reducible exact dict_From.mono _ _ _)
      | (with_reducible exact dict_Merge.mono _ _)
      | (with_reducible exact LeO.refl _)
      | (with_reducible exact LeO.none _)
      | (with_reducible refine LeO.ite ?_ ?_)
      | (with_reducible refine LeO.bind ?_ (fun _ => ?_))
      | exact ih0 _ _ _ _ _ _
      | exact ih1 _ _ _ _ _ _
      | exact ih2 _ _ _ _ _ _
      | exact ih3 _ _ _ _ _ _
      | exact ih4 _ _ _ _ _ _ _
      | exact ih5 _ _ _ _ _
      | exact ih6 _ _ _ _ _
      | exact ih7 _ _ _ _
      | exact columbariumlaw7_few.mono _ _
      | exact columbariumlaw7_known.mono _
      | exact dict_Build.mono _ _
      | exact dict_Find.mono _ _ _
      | exact dict_From.mono _ _ _
      | exact dict_Merge.mono _ _
      | exact LeO.none _
      | refine LeO.ite ?_ ?_
      | refine LeO.bind ?_ (fun _ => ?_)
set_option maxHeartbeats 8000000 in
set_option maxRecDepth 100000 in
theorem columbariumlaw7_DictRules.calls (k : Nat) (A0 : Option Addr) (c0 : Nat) (l0 : List ByteArray) (A1 : Option Addr) (c1 : Nat) (l1 : List ByteArray) (a2 : ByteArray) (r : Bool) (w : World) (hr0 : Kd.C Kd.string w A0 l0.length l0) (hc0 : l0.length ≤ c0) (hr1 : Kd.C Kd.string w A1 l1.length l1) (hc1 : l1.length ≤ c1) (hrt_ : Aside0 (r = true)) (h : columbariumlaw7_DictRules.f k l0 l1 a2 = some r) :
    Calls Try.prog 4 #[.slice A0 l0.length c0, .slice A1 l1.length c1, .string a2] w fun e w' => e = .returned (.bool r) ∧ Below w.heap.size w w' := by
  have HR0 := Aside0.mk hr0
  have HC0 := Aside0.mk hc0
  clear hr0 hc0
  have HR1 := Aside0.mk hr1
  have HC1 := Aside0.mk hc1
  clear hr1 hc1
  have HB := Aside0.mk (Below.refl w.heap.size w)
  have H : ((columbariumlaw7_few.f k l0).bind fun t190 => ((dict_Build.f k t190).bind fun bt193 => (if (bt193.2.length : Int) = (t190.length : Int) then (columbariumlaw7_DictRules.j0 k t190 l1 a2 bt193.1 bt193.2 (decide ((bt193.1.length : Int) > (t190.length : Int)))) else (columbariumlaw7_DictRules.j0 k t190 l1 a2 bt193.1 bt193.2 true)))) = some r := h
  clear h
  replace H := Option.bind_eq_some_iff.mp H
  obtain ⟨t190, A40, H⟩ := H
  replace H : ((dict_Build.f k t190).bind fun bt193 => (if (bt193.2.length : Int) = (t190.length : Int) then (columbariumlaw7_DictRules.j0 k t190 l1 a2 bt193.1 bt193.2 (decide ((bt193.1.length : Int) > (t190.length : Int)))) else (columbariumlaw7_DictRules.j0 k t190 l1 a2 bt193.1 bt193.2 true))) = some r := H
  have A4 := Aside0.mk A40
  clear A40
  replace H := Option.bind_eq_some_iff.mp H
  obtain ⟨⟨t193, t196⟩, A50, H⟩ := H
  replace H : (if (t196.length : Int) = (t190.length : Int) then (columbariumlaw7_DictRules.j0 k t190 l1 a2 t193 t196 (decide ((t193.length : Int) > (t190.length : Int)))) else (columbariumlaw7_DictRules.j0 k t190 l1 a2 t193 t196 true)) = some r := H
  have A5 := Aside0.mk A50
  clear A50
  have HC6 := Aside0.mk H
  clear H
  go_enter Try.func4, Try.ntmps4
  go_upto_region 3 with (first | (go_at_call 9; (with_reducible refine (columbariumlaw7_few.calls k _ _ l0 t190 _ ?side1 ?side2 A4.out).mono ?_); (case side1 => repeat (first | exact HR0.out | (with_reducible refine Kd.C_alloc ?_ _) | (with_reducible refine Kd.C_drewN ?_ _) | (with_reducible refine Kd.C_drew ?_))); (case side2 => exact HC0.out); rintro e w7 ⟨v191, rfl, ho0, hb⟩; have n0_ := Aside0.mk (Kd.R_lower ho0 (below_size (by repeat (first | (with_reducible first | exact HB.out | apply below_alloc | apply pw_below_drewN | apply below_drew1) | exact HB.out)))); have n1_ := Aside0.mk (below_step (by repeat (first | (with_reducible first | exact HB.out | apply below_alloc | apply pw_below_drewN | apply below_drew1) | exact HB.out)) hb); clear HB; have HO192 := n0_; have HB := n1_; clear n0_ n1_; (try clear hb); (try clear hb2); (try clear hk); (try clear hi); (try clear ho0); obtain ⟨Ao8, co8, eo8⟩ := Kd.R_slice HO192.out; subst eo8) | (go_at_call 8; (with_reducible refine (dict_Build.calls k _ _ t190 t193 t196 _ ?side1 ?side2 A5.out).mono ?_); (case side1 => repeat (first | exact (Kd.R_reads' HO192.out).2.2 | (with_reducible refine Kd.C_alloc ?_ _) | (with_reducible refine Kd.C_drewN ?_ _) | (with_reducible refine Kd.C_drew ?_))); (case side2 => exact (Kd.R_reads' HO192.out).2.1); rintro e w9 ⟨v194, v197, rfl, ho0, ho1, hb⟩; have n0_ := Aside0.mk (Kd.R_below (by (with_reducible repeat (first | apply Kd.R_alloc | apply Kd.R_drewN | apply Kd.R_drew)); exact HO192.out) hb); have n1_ := Aside0.mk (Kd.V_lower (Kd.V_mono (ok' := fun k_ => some k_ ≠ (v197 : Value).ownBlock ∧ some k_ ≠ (.slice Ao8 t190.length co8 : Value).ownBlock) ho0 (fun k_ hk_ => ⟨hk_.2, (Kd.fresh' (Kd.R_lt (by (with_reducible repeat (first | apply Kd.R_alloc | apply Kd.R_drewN | apply Kd.R_drew)); exact HO192.out)) k_ hk_.1)⟩)) (below_size (by repeat (first | (with_reducible first | exact HB.out | apply below_alloc | apply pw_below_drewN | apply below_drew1) | exact HB.out)))); have n2_ := Aside0.mk (Kd.R_lower (Kd.R_mono (ok' := fun k_ => True) ho1 (fun _ hk_ => trivial)) (below_size (by repeat (first | (with_reducible first | exact HB.out | apply below_alloc | apply pw_below_drewN | apply below_drew1) | exact HB.out)))); have n3_ := Aside0.mk (below_step (by repeat (first | (with_reducible first | exact HB.out | apply below_alloc | apply pw_below_drewN | apply below_drew1) | exact HB.out)) hb); clear HO192; clear HB; have HO192 := n0_; have HO195 := n1_; have HO198 := n2_; have HB := n3_; clear n0_ n1_ n2_ n3_; (try clear hb); (try clear hb2); (try clear hk); (try clear hi); (try clear ho0); (try clear ho1)))
  repeat (go_quiet (first | (go_at_call 9; (with_reducible refine (columbariumlaw7_few.calls k _ _ l0 t190 _ ?side1 ?side2 A4.out).mono ?_); (case side1 => repeat (first | exact HR0.out | (with_reducible refine Kd.C_alloc ?_ _) | (with_reducible refine Kd.C_drewN ?_ _) | (with_reducible refine Kd.C_drew ?_))); (case side2 => exact HC0.out); rintro e w7 ⟨v191, rfl, ho0, hb⟩; have n0_ := Aside0.mk (Kd.R_lower ho0 (below_size (by repeat (first | (with_reducible first | exact HB.out | apply below_alloc | apply pw_below_drewN | apply below_drew1) | exact HB.out)))); have n1_ := Aside0.mk (below_step (by repeat (first | (with_reducible first | exact HB.out | apply below_alloc | apply pw_below_drewN | apply below_drew1) | exact HB.out)) hb); clear HB; have HO192 := n0_; have HB := n1_; clear n0_ n1_; (try clear hb); (try clear hb2); (try clear hk); (try clear hi); (try clear ho0); obtain ⟨Ao8, co8, eo8⟩ := Kd.R_slice HO192.out; subst eo8) | (go_at_call 8; (with_reducible refine (dict_Build.calls k _ _ t190 t193 t196 _ ?side1 ?side2 A5.out).mono ?_); (case side1 => repeat (first | exact (Kd.R_reads' HO192.out).2.2 | (with_reducible refine Kd.C_alloc ?_ _) | (with_reducible refine Kd.C_drewN ?_ _) | (with_reducible refine Kd.C_drew ?_))); (case side2 => exact (Kd.R_reads' HO192.out).2.1); rintro e w9 ⟨v194, v197, rfl, ho0, ho1, hb⟩; have n0_ := Aside0.mk (Kd.R_below (by (with_reducible repeat (first | apply Kd.R_alloc | apply Kd.R_drewN | apply Kd.R_drew)); exact HO192.out) hb); have n1_ := Aside0.mk (Kd.V_lower (Kd.V_mono (ok' := fun k_ => some k_ ≠ (v197 : Value).ownBlock ∧ some k_ ≠ (.slice Ao8 t190.length co8 : Value).ownBlock) ho0 (fun k_ hk_ => ⟨hk_.2, (Kd.fresh' (Kd.R_lt (by (with_reducible repeat (first | apply Kd.R_alloc | apply Kd.R_drewN | apply Kd.R_drew)); exact HO192.out)) k_ hk_.1)⟩)) (below_size (by repeat (first | (with_reducible first | exact HB.out | apply below_alloc | apply pw_below_drewN | apply below_drew1) | exact HB.out)))); have n2_ := Aside0.mk (Kd.R_lower (Kd.R_mono (ok' := fun k_ => True) ho1 (fun _ hk_ => trivial)) (below_size (by repeat (first | (with_reducible first | exact HB.out | apply below_alloc | apply pw_below_drewN | apply below_drew1) | exact HB.out)))); have n3_ := Aside0.mk (below_step (by repeat (first | (with_reducible first | exact HB.out | apply below_alloc | apply pw_below_drewN | apply below_drew1) | exact HB.out)) hb); clear HO192; clear HB; have HO192 := n0_; have HO195 := n1_; have HO198 := n2_; have HB := n3_; clear n0_ n1_ n2_ n3_; (try clear hb); (try clear hb2); (try clear hk); (try clear hi); (try clear ho0); (try clear ho1))); go_upto_region 3 with (first | (go_at_call 9; (with_reducible refine (columbariumlaw7_few.calls k _ _ l0 t190 _ ?side1 ?side2 A4.out).mono ?_); (case side1 => repeat (first | exact HR0.out | (with_reducible refine Kd.C_alloc ?_ _) | (with_reducible refine Kd.C_drewN ?_ _) | (with_reducible refine Kd.C_drew ?_))); (case side2 => exact HC0.out); rintro e w7 ⟨v191, rfl, ho0, hb⟩; have n0_ := Aside0.mk (Kd.R_lower ho0 (below_size (by repeat (first | (with_reducible first | exact HB.out | apply below_alloc | apply pw_below_drewN | apply below_drew1) | exact HB.out)))); have n1_ := Aside0.mk (below_step (by repeat (first | (with_reducible first | exact HB.out | apply below_alloc | apply pw_below_drewN | apply below_drew1) | exact HB.out)) hb); clear HB; have HO192 := n0_; have HB := n1_; clear n0_ n1_; (try clear hb); (try clear hb2); (try clear hk); (try clear hi); (try clear ho0); obtain ⟨Ao8, co8, eo8⟩ := Kd.R_slice HO192.out; subst eo8) | (go_at_call 8; (with_reducible refine (dict_Build.calls k _ _ t190 t193 t196 _ ?side1 ?side2 A5.out).mono ?_); (case side1 => repeat (first | exact (Kd.R_reads' HO192.out).2.2 | (with_reducible refine Kd.C_alloc ?_ _) | (with_reducible refine Kd.C_drewN ?_ _) | (with_reducible refine Kd.C_drew ?_))); (case side2 => exact (Kd.R_reads' HO192.out).2.1); rintro e w9 ⟨v194, v197, rfl, ho0, ho1, hb⟩; have n0_ := Aside0.mk (Kd.R_below (by (with_reducible repeat (first | apply Kd.R_alloc | apply Kd.R_drewN | apply Kd.R_drew)); exact HO192.out) hb); have n1_ := Aside0.mk (Kd.V_lower (Kd.V_mono (ok' := fun k_ => some k_ ≠ (v197 : Value).ownBlock ∧ some k_ ≠ (.slice Ao8 t190.length co8 : Value).ownBlock) ho0 (fun k_ hk_ => ⟨hk_.2, (Kd.fresh' (Kd.R_lt (by (with_reducible repeat (first | apply Kd.R_alloc | apply Kd.R_drewN | apply Kd.R_drew)); exact HO192.out)) k_ hk_.1)⟩)) (below_size (by repeat (first | (with_reducible first | exact HB.out | apply below_alloc | apply pw_below_drewN | apply below_drew1) | exact HB.out)))); have n2_ := Aside0.mk (Kd.R_lower (Kd.R_mono (ok' := fun k_ => True) ho1 (fun _ hk_ => trivial)) (below_size (by repeat (first | (with_reducible first | exact HB.out | apply below_alloc | apply pw_below_drewN | apply below_drew1) | exact HB.out)))); have n3_ := Aside0.mk (below_step (by repeat (first | (with_reducible first | exact HB.out | apply below_alloc | apply pw_below_drewN | apply below_drew1) | exact HB.out)) hb); clear HO192; clear HB; have HO192 := n0_; have HO195 := n1_; have HO198 := n2_; have HB := n3_; clear n0_ n1_ n2_ n3_; (try clear hb); (try clear hb2); (try clear hk); (try clear hi); (try clear ho0); (try clear ho1))))
  (try simp only [Act.put, List.setIfInBounds_toArray, List.set_cons_zero, List.set_cons_succ])
  go_cut [40] (fun v40 wc => ∃ (kq : Nat) (x40_5 : Bool), v40 = .bool x40_5 ∧ Aside0 (columbariumlaw7_DictRules.j0 kq t190 l1 a2 t193 t196 x40_5 = some r) ∧ Aside0 (kq ≤ k) ∧ Aside0 (Kd.R Kd.string 9 wc w.heap.size (fun _ => True) (.slice Ao8 t190.length co8) t190) ∧ Aside0 (Kd.V Kd.string 9 wc w.heap.size (fun k_ => some k_ ≠ ((.slice Ao8 t190.length co8) : Value).ownBlock ∧ some k_ ≠ (v197 : Value).ownBlock) v194 t193) ∧ Aside0 (Kd.R (Kd.int .i64) 3 wc w.heap.size (fun _ => True) v197 t196) ∧ Aside0 (Below w.heap.size w wc))
  case first =>
    have H := HC6.out
    clear HC6
    by_cases c10 : (t196.length : Int) = (t190.length : Int)
    · rw [if_pos c10] at H
      have c10b0 : ((t196.length : Int) == (t190.length : Int)) = true := beq_iff_eq.mpr c10
      have c10b1 : ((t196.length : Int) != (t190.length : Int)) = false := bne_eq_false_iff_eq.mpr c10
      have c10b2 : (t196.length == t190.length) = true := by first | simpa using c10 | (simp at c10 ⊢; omega)
      clear c10
      (first | rw [c10b0] | rw [c10b1] | (simp only [i64_w, i32_w]; rw [c10b0]) | skip)
      as_aux_lemma =>
        have H' := Aside0.mk H
        clear H
        obtain ⟨Ao11, co11, eo11⟩ := Kd.R_slice HO198.out
        subst eo11
        obtain ⟨Ao12, co12, eo12⟩ := Kd.V_slice HO195.out
        subst eo12
        go_wp2
        repeat (go_quiet (fail); try go_wp2)
        go_meet
        case rel => exact ⟨_, (decide ((t193.length : Int) > (t190.length : Int))), (by first | rfl | (simp; done) | (simp [*]; done)), H', ⟨by first | omega | exact Nat.le_refl _⟩, ⟨by (with_reducible repeat (first | apply Kd.R_alloc | apply Kd.R_drewN | apply Kd.R_drew)); exact HO192.out⟩, ⟨by (with_reducible repeat (first | apply Kd.V_alloc | apply Kd.V_drewN | apply Kd.V_drew)); exact Kd.V_mono HO195.out (fun _ hk => ⟨hk.2, hk.1⟩)⟩, ⟨by (with_reducible repeat (first | apply Kd.R_alloc | apply Kd.R_drewN | apply Kd.R_drew)); exact HO198.out⟩, ⟨by repeat (first | (with_reducible first | exact HB.out | apply below_alloc | apply pw_below_drewN | apply below_drew1) | exact HB.out)⟩⟩
    · rw [if_neg c10] at H
      have c10b0 : ((t196.length : Int) == (t190.length : Int)) = false := beq_eq_false_iff_ne.mpr c10
      have c10b1 : ((t196.length : Int) != (t190.length : Int)) = true := bne_iff_ne.mpr c10
      have c10b2 : (t196.length == t190.length) = false := by first | simpa using c10 | (simp at c10 ⊢; omega)
      (first | rw [c10b0] | rw [c10b1] | (simp only [i64_w, i32_w]; rw [c10b0]) | skip)
      as_aux_lemma =>
        have H' := Aside0.mk H
        clear H
        obtain ⟨Ao13, co13, eo13⟩ := Kd.R_slice HO198.out
        subst eo13
        go_wp2
        repeat (go_quiet (fail); try go_wp2)
        go_meet
        case rel => exact ⟨_, (true), (by first | rfl | (simp; done) | (simp [*]; done)), H', ⟨by first | omega | exact Nat.le_refl _⟩, ⟨by (with_reducible repeat (first | apply Kd.R_alloc | apply Kd.R_drewN | apply Kd.R_drew)); exact HO192.out⟩, ⟨by (with_reducible repeat (first | apply Kd.V_alloc | apply Kd.V_drewN | apply Kd.V_drew)); exact Kd.V_mono HO195.out (fun _ hk => ⟨hk.2, hk.1⟩)⟩, ⟨by (with_reducible repeat (first | apply Kd.R_alloc | apply Kd.R_drewN | apply Kd.R_drew)); exact HO198.out⟩, ⟨by repeat (first | (with_reducible first | exact HB.out | apply below_alloc | apply pw_below_drewN | apply below_drew1) | exact HB.out)⟩⟩
  case rest =>
    clear HC6
    try clear c1
    try clear p2
    try clear c4
    try clear c10
    try clear c10b0
    try clear c10b1
    try clear c10b2
    obtain ⟨kq, x40_5, rfl, HA, HJ5, HO_0, HO_7, HO_8, HB⟩ := hcut
    cases kq with
    | zero => exact absurd HA.out (by simp [columbariumlaw7_DictRules.j0])
    | succ kj5 =>
      have H := HA.out
      clear HA
      simp only [columbariumlaw7_DictRules.j0] at H
      by_cases c14 : x40_5 = true
      · subst c14
        have H1 : (some false) = some r := by rw [if_pos rfl] at H; exact H
        clear H
        have H := H1
        clear H1
        as_aux_lemma =>
          exact absurd ((Option.some.inj H).trans hrt_.out) (by decide)
      · replace c14 := Bool.eq_false_iff.mpr c14
        subst c14
        have H1 : (columbariumlaw7_DictRules.l0 kj5 t190 l1 a2 t193 t196 0) = some r := by rw [if_neg (show ¬ (false = true) by decide)] at H; exact H
        clear H
        have H := H1
        clear H1
        have H' := Aside0.mk H
        clear H
        go_wp2
        repeat (go_quiet (fail); try go_wp2)
        go_loopg [9] kj5 (fun kq v9 w' => ∃ (x9_2 : Int), v9 = .int .i64 x9_2 ∧ Aside0 (columbariumlaw7_DictRules.l0 kq t190 l1 a2 t193 t196 x9_2 = some r) ∧ Aside0 (kq ≤ kj5) ∧ Aside0 (Kd.R Kd.string 9 w' w.heap.size (fun _ => True) (.slice Ao8 t190.length co8) t190) ∧ Aside0 (Kd.V Kd.string 9 w' w.heap.size (fun k_ => some k_ ≠ ((.slice Ao8 t190.length co8) : Value).ownBlock ∧ some k_ ≠ (v197 : Value).ownBlock) v194 t193) ∧ Aside0 (Kd.R (Kd.int .i64) 3 w' w.heap.size (fun _ => True) v197 t196) ∧ Aside0 (Below w.heap.size w w'))
        case atStart => exact ⟨(0), (by first | rfl | (simp; done) | (simp [*]; done)), H', ⟨Nat.le_refl _⟩, ⟨by (with_reducible repeat (first | apply Kd.R_alloc | apply Kd.R_drewN | apply Kd.R_drew)); exact HO_0.out⟩, ⟨by (with_reducible repeat (first | apply Kd.V_alloc | apply Kd.V_drewN | apply Kd.V_drew)); exact HO_7.out⟩, ⟨by (with_reducible repeat (first | apply Kd.R_alloc | apply Kd.R_drewN | apply Kd.R_drew)); exact HO_8.out⟩, ⟨by repeat (first | (with_reducible first | exact HB.out | apply below_alloc | apply pw_below_drewN | apply below_drew1) | exact HB.out)⟩⟩
        case round =>
          clear H'
          try clear c1
          try clear p2
          try clear c4
          try clear c10
          try clear c10b0
          try clear c10b1
          try clear c10b2
          try clear c14
          try clear p2
          obtain ⟨x9_2, rfl, HA, HK2, HO_0, HO_7, HO_8, HB⟩ := hrel
          cases gk with
          | zero => exact absurd HA.out (by simp [columbariumlaw7_DictRules.l0])
          | succ k2 =>
            have H := HA.out
            clear HA
            simp only [columbariumlaw7_DictRules.l0] at H
            by_cases c15 : x9_2 < (t190.length : Int)
            · rw [if_pos c15] at H
              have c15b0 : decide (x9_2 < (t190.length : Int)) = true := decide_eq_true c15
              clear c15
              by_cases c16 : 0 ≤ x9_2
              · rw [if_pos c16] at H
                have c16b0 : decide (0 ≤ x9_2) = true := decide_eq_true c16
                clear c16
                by_cases c17 : x9_2 < (t196.length : Int)
                · rw [if_pos c17] at H
                  have c17b0 : decide (x9_2 < (t196.length : Int)) = true := decide_eq_true c17
                  clear c17
                  by_cases c18 : (rd t196 x9_2) < 0
                  · rw [if_pos c18] at H
                    have c18b0 : decide ((rd t196 x9_2) < 0) = true := decide_eq_true c18
                    clear c18
                    as_aux_lemma =>
                      exact absurd ((Option.some.inj H).trans hrt_.out) (by decide)
                  · rw [if_neg c18] at H
                    have c18b0 : decide ((rd t196 x9_2) < 0) = false := decide_eq_false c18
                    clear c18
                    by_cases c19 : (rd t196 x9_2) ≥ (t193.length : Int)
                    · rw [if_pos c19] at H
                      have c19b0 : decide ((t193.length : Int) ≤ (rd t196 x9_2)) = true := decide_eq_true c19
                      clear c19
                      as_aux_lemma =>
                        exact absurd ((Option.some.inj H).trans hrt_.out) (by decide)
                    · rw [if_neg c19] at H
                      have c19b0 : decide ((t193.length : Int) ≤ (rd t196 x9_2)) = false := decide_eq_false c19
                      clear c19
                      by_cases c20 : 0 ≤ (rd t196 x9_2)
                      · rw [if_pos c20] at H
                        have c20b0 : decide (0 ≤ (rd t196 x9_2)) = true := decide_eq_true c20
                        clear c20
                        by_cases c21 : (rd t196 x9_2) < (t193.length : Int)
                        · rw [if_pos c21] at H
                          have c21b0 : decide ((rd t196 x9_2) < (t193.length : Int)) = true := decide_eq_true c21
                          clear c21
                          by_cases c22 : (rdOf ByteArray.empty t193 (rd t196 x9_2)).toList = (rdOf ByteArray.empty t190 x9_2).toList
                          · rw [if_pos c22] at H
                            have c22b0 : ((rdOf ByteArray.empty t193 (rd t196 x9_2)).toList == (rdOf ByteArray.empty t190 x9_2).toList) = true := beq_iff_eq.mpr c22
                            have c22b1 : ((rdOf ByteArray.empty t193 (rd t196 x9_2)).toList != (rdOf ByteArray.empty t190 x9_2).toList) = false := bne_eq_false_iff_eq.mpr c22
                            clear c22
                            as_aux_lemma =>
                              have H' := Aside0.mk H
                              clear H
                              obtain ⟨Ao23, co23, eo23⟩ := Kd.R_slice HO_8.out
                              subst eo23
                              have p199 : 0 ≤ (x9_2 : Int) := of_decide_eq_true (by first | (with_reducible assumption) | assumption)
                              have q199 : x9_2 < (t196.length : Int) := of_decide_eq_true (by first | (with_reducible assumption) | assumption)
                              obtain ⟨ad199, e199, hx199_0⟩ := Kd.at_int (Kd.R_reads' HO_8.out).2.2 x9_2 p199 q199
                              cases e199
                              replace p199 := eq_true p199
                              replace q199 := eq_true q199
                              have p200 : 0 ≤ (x9_2 : Int) := of_decide_eq_true (by first | (with_reducible assumption) | assumption)
                              have q200 : x9_2 < (t196.length : Int) := of_decide_eq_true (by first | (with_reducible assumption) | assumption)
                              obtain ⟨ad200, e200, hx200_0⟩ := Kd.at_int (Kd.R_reads' HO_8.out).2.2 x9_2 p200 q200
                              obtain rfl : ad199 = ad200 := (by injection e200)
                              replace p200 := eq_true p200
                              replace q200 := eq_true q200
                              obtain ⟨Ao24, co24, eo24⟩ := Kd.V_slice HO_7.out
                              subst eo24
                              have p201 : 0 ≤ (x9_2 : Int) := of_decide_eq_true (by first | (with_reducible assumption) | assumption)
                              have q201 : x9_2 < (t196.length : Int) := of_decide_eq_true (by first | (with_reducible assumption) | assumption)
                              obtain ⟨ad201, e201, hx201_0⟩ := Kd.at_int (Kd.R_reads' HO_8.out).2.2 x9_2 p201 q201
                              obtain rfl : ad199 = ad201 := (by injection e201)
                              replace p201 := eq_true p201
                              replace q201 := eq_true q201
                              have p202 : 0 ≤ ((rd t196 x9_2) : Int) := of_decide_eq_true (by first | (with_reducible assumption) | assumption)
                              have q202 : (rd t196 x9_2) < (t193.length : Int) := of_decide_eq_true (by first | (with_reducible assumption) | assumption)
                              obtain ⟨ad202, e202, hx202_0⟩ := Kd.at_string (Kd.V_reads' HO_7.out).2.2 (rd t196 x9_2) p202 q202
                              cases e202
                              replace p202 := eq_true p202
                              replace q202 := eq_true q202
                              have p203 : 0 ≤ (x9_2 : Int) := of_decide_eq_true (by first | (with_reducible assumption) | assumption)
                              have q203 : x9_2 < (t190.length : Int) := of_decide_eq_true (by first | (with_reducible assumption) | assumption)
                              obtain ⟨ad203, e203, hx203_0⟩ := Kd.at_string (Kd.R_reads' HO_0.out).2.2 x9_2 p203 q203
                              cases e203
                              replace p203 := eq_true p203
                              replace q203 := eq_true q203
                              go_wp2
                              repeat (go_quiet (fail); try go_wp2)
                              go_roundg k2
                              case measure => have := HJ5.out; have := HK2.out; omega
                              case rel => exact ⟨(wrap64 (x9_2 + 1)), (by first | rfl | (simp; done) | (simp [*]; done)), H', ⟨by have := HJ5.out; have := HK2.out; omega⟩, ⟨by (with_reducible repeat (first | apply Kd.R_alloc | apply Kd.R_drewN | apply Kd.R_drew)); exact HO_0.out⟩, ⟨by (with_reducible repeat (first | apply Kd.V_alloc | apply Kd.V_drewN | apply Kd.V_drew)); exact HO_7.out⟩, ⟨by (with_reducible repeat (first | apply Kd.R_alloc | apply Kd.R_drewN | apply Kd.R_drew)); exact HO_8.out⟩, ⟨by repeat (first | (with_reducible first | exact HB.out | apply below_alloc | apply pw_below_drewN | apply below_drew1) | exact HB.out)⟩⟩
                          · rw [if_neg c22] at H
                            have c22b0 : ((rdOf ByteArray.empty t193 (rd t196 x9_2)).toList == (rdOf ByteArray.empty t190 x9_2).toList) = false := beq_eq_false_iff_ne.mpr c22
                            have c22b1 : ((rdOf ByteArray.empty t193 (rd t196 x9_2)).toList != (rdOf ByteArray.empty t190 x9_2).toList) = true := bne_iff_ne.mpr c22
                            as_aux_lemma =>
                              exact absurd ((Option.some.inj H).trans hrt_.out) (by decide)
                        · rw [if_neg c21] at H
                          exact absurd H (by simp)
                      · rw [if_neg c20] at H
                        exact absurd H (by simp)
                · rw [if_neg c17] at H
                  exact absurd H (by simp)
              · rw [if_neg c16] at H
                exact absurd H (by simp)
            · rw [if_neg c15] at H
              have c15b0 : decide (x9_2 < (t190.length : Int)) = false := decide_eq_false c15
              clear c15
              replace H := Option.bind_eq_some_iff.mp H
              obtain ⟨⟨t204, t205⟩, A250, H⟩ := H
              replace H : (if t204 < 0 then (columbariumlaw7_DictRules.j2 k2 l1 a2 t193 t204 t205 true) else (if t204 > t205 then (columbariumlaw7_DictRules.j2 k2 l1 a2 t193 t204 t205 true) else (columbariumlaw7_DictRules.j2 k2 l1 a2 t193 t204 t205 (decide (t205 > (t193.length : Int)))))) = some r := H
              have A25 := Aside0.mk A250
              clear A250
              have HC26 := Aside0.mk H
              clear H
              obtain ⟨Ao27, co27, eo27⟩ := Kd.V_slice HO_7.out
              subst eo27
              go_upto_region 11 with (first | (go_at_call 13; (with_reducible refine (dict_From.calls k2 _ _ t193 a2 t204 t205 _ ?side1 ?side2 A25.out).mono ?_); (case side1 => repeat (first | exact (Kd.V_reads' HO_7.out).2.2 | (with_reducible refine Kd.C_alloc ?_ _) | (with_reducible refine Kd.C_drewN ?_ _) | (with_reducible refine Kd.C_drew ?_))); (case side2 => exact (Kd.V_reads' HO_7.out).2.1); rintro e w' ⟨rfl, ⟨nd, rfl⟩⟩; (try first | exact ⟨rfl, _, World.drewN_drewN _ _ _⟩ | exact ⟨rfl, _, Eq.trans (World.drewN_drewN _ _ _) (congrArg (World.drewN _) (Nat.add_assoc _ _ _))⟩)))
              repeat (go_quiet (first | (go_at_call 13; (with_reducible refine (dict_From.calls k2 _ _ t193 a2 t204 t205 _ ?side1 ?side2 A25.out).mono ?_); (case side1 => repeat (first | exact (Kd.V_reads' HO_7.out).2.2 | (with_reducible refine Kd.C_alloc ?_ _) | (with_reducible refine Kd.C_drewN ?_ _) | (with_reducible refine Kd.C_drew ?_))); (case side2 => exact (Kd.V_reads' HO_7.out).2.1); rintro e w' ⟨rfl, ⟨nd, rfl⟩⟩; (try first | exact ⟨rfl, _, World.drewN_drewN _ _ _⟩ | exact ⟨rfl, _, Eq.trans (World.drewN_drewN _ _ _) (congrArg (World.drewN _) (Nat.add_assoc _ _ _))⟩))); go_upto_region 11 with (first | (go_at_call 13; (with_reducible refine (dict_From.calls k2 _ _ t193 a2 t204 t205 _ ?side1 ?side2 A25.out).mono ?_); (case side1 => repeat (first | exact (Kd.V_reads' HO_7.out).2.2 | (with_reducible refine Kd.C_alloc ?_ _) | (with_reducible refine Kd.C_drewN ?_ _) | (with_reducible refine Kd.C_drew ?_))); (case side2 => exact (Kd.V_reads' HO_7.out).2.1); rintro e w' ⟨rfl, ⟨nd, rfl⟩⟩; (try first | exact ⟨rfl, _, World.drewN_drewN _ _ _⟩ | exact ⟨rfl, _, Eq.trans (World.drewN_drewN _ _ _) (congrArg (World.drewN _) (Nat.add_assoc _ _ _))⟩))))
              (try simp only [Act.put, List.setIfInBounds_toArray, List.set_cons_zero, List.set_cons_succ])
              go_cut [93] (fun v93 wc => ∃ (kq : Nat) (x93_25 : Bool), v93 = .bool x93_25 ∧ Aside0 (columbariumlaw7_DictRules.j2 kq l1 a2 t193 t204 t205 x93_25 = some r) ∧ Aside0 (kq ≤ k2) ∧ Aside0 (Kd.V Kd.string 9 wc w.heap.size (fun _ => True) (.slice Ao27 t193.length co27) t193) ∧ Aside0 (Below w.heap.size w wc))
              case first =>
                have H := HC26.out
                clear HC26
                by_cases c28 : t204 < 0
                · rw [if_pos c28] at H
                  have c28b0 : decide (t204 < 0) = true := decide_eq_true c28
                  clear c28
                  (first | rw [c28b0] | rw [c28b1] | (simp only [i64_w, i32_w]; rw [c28b0]) | skip)
                  as_aux_lemma =>
                    have H' := Aside0.mk H
                    clear H
                    go_wp2
                    repeat (go_quiet (fail); try go_wp2)
                    go_meet
                    case rel => exact ⟨_, (true), (by first | rfl | (simp; done) | (simp [*]; done)), H', ⟨by have := HJ5.out; have := HK2.out; first | omega | exact Nat.le_refl _⟩, ⟨by (with_reducible repeat (first | apply Kd.V_alloc | apply Kd.V_drewN | apply Kd.V_drew)); exact Kd.V_mono HO_7.out (fun _ hk => trivial)⟩, ⟨by repeat (first | (with_reducible first | exact HB.out | apply below_alloc | apply pw_below_drewN | apply below_drew1) | exact HB.out)⟩⟩
                · rw [if_neg c28] at H
                  have c28b0 : decide (t204 < 0) = false := decide_eq_false c28
                  clear c28
                  (first | rw [c28b0] | rw [c28b1] | (simp only [i64_w, i32_w]; rw [c28b0]) | skip)
                  by_cases c29 : t204 > t205
                  · rw [if_pos c29] at H
                    have c29b0 : decide (t205 < t204) = true := decide_eq_true c29
                    clear c29
                    as_aux_lemma =>
                      have H' := Aside0.mk H
                      clear H
                      go_wp2
                      repeat (go_quiet (fail); try go_wp2)
                      go_meet
                      case rel => exact ⟨_, (true), (by first | rfl | (simp; done) | (simp [*]; done)), H', ⟨by have := HJ5.out; have := HK2.out; first | omega | exact Nat.le_refl _⟩, ⟨by (with_reducible repeat (first | apply Kd.V_alloc | apply Kd.V_drewN | apply Kd.V_drew)); exact Kd.V_mono HO_7.out (fun _ hk => trivial)⟩, ⟨by repeat (first | (with_reducible first | exact HB.out | apply below_alloc | apply pw_below_drewN | apply below_drew1) | exact HB.out)⟩⟩
                  · rw [if_neg c29] at H
                    have c29b0 : decide (t205 < t204) = false := decide_eq_false c29
                    clear c29
                    as_aux_lemma =>
                      have H' := Aside0.mk H
                      clear H
                      go_wp2
                      repeat (go_quiet (fail); try go_wp2)
                      go_meet
                      case rel => exact ⟨_, (decide (t205 > (t193.length : Int))), (by first | rfl | (simp; done) | (simp [*]; done)), H', ⟨by have := HJ5.out; have := HK2.out; first | omega | exact Nat.le_refl _⟩, ⟨by (with_reducible repeat (first | apply Kd.V_alloc | apply Kd.V_drewN | apply Kd.V_drew)); exact Kd.V_mono HO_7.out (fun _ hk => trivial)⟩, ⟨by repeat (first | (with_reducible first | exact HB.out | apply below_alloc | apply pw_below_drewN | apply below_drew1) | exact HB.out)⟩⟩
              case rest =>
                clear HC26
                try clear c1
                try clear p1
                try clear q1
                try clear hx1
                try clear c2
                try clear p2
                try clear q2
                try clear hx2
                try clear c4
                try clear p6
                try clear c10
                try clear c10b0
                try clear c10b1
                try clear c10b2
                try clear c14
                try clear c15
                try clear c15b0
                try clear c16
                try clear c16b0
                try clear c17
                try clear c17b0
                try clear c18
                try clear c18b0
                try clear c19
                try clear c19b0
                try clear p19
                try clear q19
                try clear hx19
                try clear c20
                try clear c20b0
                try clear p20
                try clear q20
                try clear hx20
                try clear c21
                try clear c21b0
                try clear c22
                try clear c22b0
                try clear c22b1
                try clear c28
                try clear c28b0
                try clear c28b1
                try clear c29
                try clear c29b0
                try clear hx199_0
                try clear hx200_0
                try clear hx201_0
                try clear hx202_0
                try clear hx203_0
                try clear p199
                try clear p2
                try clear p200
                try clear p201
                try clear p202
                try clear p203
                try clear q199
                try clear q200
                try clear q201
                try clear q202
                try clear q203
                obtain ⟨kq, x93_25, rfl, HA, HJ25, HO_7, HB⟩ := hcut
                cases kq with
                | zero => exact absurd HA.out (by simp [columbariumlaw7_DictRules.j2])
                | succ kj25 =>
                  have H := HA.out
                  clear HA
                  simp only [columbariumlaw7_DictRules.j2] at H
                  by_cases c30 : x93_25 = true
                  · subst c30
                    have H1 : (some false) = some r := by rw [if_pos rfl] at H; exact H
                    clear H
                    have H := H1
                    clear H1
                    as_aux_lemma =>
                      exact absurd ((Option.some.inj H).trans hrt_.out) (by decide)
                  · replace c30 := Bool.eq_false_iff.mpr c30
                    subst c30
                    have H1 : (columbariumlaw7_DictRules.l1 kj25 l1 a2 t193 t204 t205 0) = some r := by rw [if_neg (show ¬ (false = true) by decide)] at H; exact H
                    clear H
                    have H := H1
                    clear H1
                    have H' := Aside0.mk H
                    clear H
                    go_wp2
                    repeat (go_quiet (fail); try go_wp2)
                    go_loopg [12] kj25 (fun kq v12 w' => ∃ (x12_4 : Int), v12 = .int .i64 x12_4 ∧ Aside0 (columbariumlaw7_DictRules.l1 kq l1 a2 t193 t204 t205 x12_4 = some r) ∧ Aside0 (kq ≤ kj25) ∧ Aside0 (Kd.V Kd.string 9 w' w.heap.size (fun _ => True) (.slice Ao27 t193.length co27) t193) ∧ Aside0 (Below w.heap.size w w'))
                    case atStart => exact ⟨(0), (by first | rfl | (simp; done) | (simp [*]; done)), H', ⟨Nat.le_refl _⟩, ⟨by (with_reducible repeat (first | apply Kd.V_alloc | apply Kd.V_drewN | apply Kd.V_drew)); exact HO_7.out⟩, ⟨by repeat (first | (with_reducible first | exact HB.out | apply below_alloc | apply pw_below_drewN | apply below_drew1) | exact HB.out)⟩⟩
                    case round =>
                      clear H'
                      try clear c1
                      try clear p1
                      try clear q1
                      try clear hx1
                      try clear c2
                      try clear p2
                      try clear q2
                      try clear hx2
                      try clear c3
                      try clear c4
                      try clear p6
                      try clear c10
                      try clear c10b0
                      try clear c10b1
                      try clear c10b2
                      try clear c14
                      try clear c15
                      try clear c15b0
                      try clear c16
                      try clear c16b0
                      try clear c17
                      try clear c17b0
                      try clear c18
                      try clear c18b0
                      try clear c19
                      try clear c19b0
                      try clear p19
                      try clear q19
                      try clear hx19
                      try clear c20
                      try clear c20b0
                      try clear p20
                      try clear q20
                      try clear hx20
                      try clear c21
                      try clear c21b0
                      try clear c22
                      try clear c22b0
                      try clear c22b1
                      try clear c28
                      try clear c28b0
                      try clear c28b1
                      try clear c29
                      try clear c29b0
                      try clear c30
                      try clear hx199_0
                      try clear hx200_0
                      try clear hx201_0
                      try clear hx202_0
                      try clear hx203_0
                      try clear p1
                      try clear p19
                      try clear p199
                      try clear p2
                      try clear p20
                      try clear p200
                      try clear p201
                      try clear p202
                      try clear p203
                      try clear p6
                      try clear q1
                      try clear q19
                      try clear q199
                      try clear q2
                      try clear q20
                      try clear q200
                      try clear q201
                      try clear q202
                      try clear q203
                      obtain ⟨x12_4, rfl, HA, HK4, HO_7, HB⟩ := hrel
                      cases gk with
                      | zero => exact absurd HA.out (by simp [columbariumlaw7_DictRules.l1])
                      | succ k4 =>
                        have H := HA.out
                        clear HA
                        simp only [columbariumlaw7_DictRules.l1] at H
                        by_cases c31 : x12_4 < (t193.length : Int)
                        · rw [if_pos c31] at H
                          have c31b0 : decide (x12_4 < (t193.length : Int)) = true := decide_eq_true c31
                          clear c31
                          have HC32 := Aside0.mk H
                          clear H
                          go_upto_region 16 with (fail)
                          repeat (go_quiet (fail); go_upto_region 16 with (fail))
                          go_cut [113] (fun v113 wc => ∃ (kq : Nat) (x113_31 : Bool), v113 = .bool x113_31 ∧ Aside0 (columbariumlaw7_DictRules.j4 kq l1 a2 t193 t204 t205 x12_4 x113_31 = some r) ∧ Aside0 (kq ≤ k4) ∧ Aside0 (Kd.V Kd.string 9 wc w.heap.size (fun _ => True) (.slice Ao27 t193.length co27) t193) ∧ Aside0 (Below w.heap.size w wc))
                          case first =>
                            have H := HC32.out
                            clear HC32
                            by_cases c33 : x12_4 > 0
                            · rw [if_pos c33] at H
                              have c33b0 : decide (0 < x12_4) = true := decide_eq_true c33
                              clear c33
                              (first | rw [c33b0] | rw [c33b1] | (simp only [i64_w, i32_w]; rw [c33b0]) | skip)
                              obtain ⟨ji34, hji34⟩ : ∃ j_ : Int, (wrap64 (x12_4 - 1)) = j_ := ⟨_, rfl⟩
                              replace H : (if 0 ≤ (ji34) then (if (ji34) < (t193.length : Int) then (if 0 ≤ x12_4 then (columbariumlaw7_DictRules.j4 k4 l1 a2 t193 t204 t205 x12_4 (!(Op.bytesLess ((rdOf ByteArray.empty t193 (ji34)).toList) ((rdOf ByteArray.empty t193 x12_4).toList)))) else (none)) else (none)) else (none)) = some r := by first | (rw [hji34] at H; exact H) | (simp only [hji34] at H ⊢; exact H)
                              have hji34w : (IntKind.i64.wrap (x12_4 - 1)) = ji34 := (i64_w _).trans hji34
                              by_cases c35 : 0 ≤ (ji34)
                              · rw [if_pos c35] at H
                                have c35b0 : decide (0 ≤ (ji34)) = true := decide_eq_true c35
                                clear c35
                                by_cases c36 : (ji34) < (t193.length : Int)
                                · rw [if_pos c36] at H
                                  have c36b0 : decide ((ji34) < (t193.length : Int)) = true := decide_eq_true c36
                                  clear c36
                                  by_cases c37 : 0 ≤ x12_4
                                  · rw [if_pos c37] at H
                                    have c37b0 : decide (0 ≤ x12_4) = true := decide_eq_true c37
                                    clear c37
                                    as_aux_lemma =>
                                      have H' := Aside0.mk H
                                      clear H
                                      have p206 : 0 ≤ ((ji34) : Int) := of_decide_eq_true (by first | (with_reducible assumption) | assumption)
                                      have q206 : (ji34) < (t193.length : Int) := of_decide_eq_true (by first | (with_reducible assumption) | assumption)
                                      obtain ⟨ad206, e206, hx206_0⟩ := Kd.at_string (Kd.V_reads' HO_7.out).2.2 (ji34) p206 q206
                                      cases e206
                                      replace p206 := eq_true p206
                                      replace q206 := eq_true q206
                                      have p207 : 0 ≤ (x12_4 : Int) := of_decide_eq_true (by first | (with_reducible assumption) | assumption)
                                      have q207 : x12_4 < (t193.length : Int) := of_decide_eq_true (by first | (with_reducible assumption) | assumption)
                                      obtain ⟨ad207, e207, hx207_0⟩ := Kd.at_string (Kd.V_reads' HO_7.out).2.2 x12_4 p207 q207
                                      obtain rfl : ad206 = ad207 := (by injection e207)
                                      replace p207 := eq_true p207
                                      replace q207 := eq_true q207
                                      go_wp2
                                      repeat (go_quiet (fail); try go_wp2)
                                      go_meet
                                      case rel => exact ⟨_, (!(Op.bytesLess ((rdOf ByteArray.empty t193 (ji34)).toList) ((rdOf ByteArray.empty t193 x12_4).toList))), (by first | rfl | (simp; done) | (simp only [← hji34] <;> (first | rfl | simp)) | (simp [*]; done)), H', ⟨by have := HJ5.out; have := HK2.out; have := HJ25.out; have := HK4.out; first | omega | exact Nat.le_refl _⟩, ⟨by (with_reducible repeat (first | apply Kd.V_alloc | apply Kd.V_drewN | apply Kd.V_drew)); exact HO_7.out⟩, ⟨by repeat (first | (with_reducible first | exact HB.out | apply below_alloc | apply pw_below_drewN | apply below_drew1) | exact HB.out)⟩⟩
                                  · rw [if_neg c37] at H
                                    exact absurd H (by simp)
                                · rw [if_neg c36] at H
                                  exact absurd H (by simp)
                              · rw [if_neg c35] at H
                                exact absurd H (by simp)
                            · rw [if_neg c33] at H
                              have c33b0 : decide (0 < x12_4) = false := decide_eq_false c33
                              clear c33
                              (first | rw [c33b0] | rw [c33b1] | (simp only [i64_w, i32_w]; rw [c33b0]) | skip)
                              as_aux_lemma =>
                                have H' := Aside0.mk H
                                clear H
                                go_wp2
                                repeat (go_quiet (fail); try go_wp2)
                                go_meet
                                case rel => exact ⟨_, (false), (by first | rfl | (simp; done) | (simp [*]; done)), H', ⟨by have := HJ5.out; have := HK2.out; have := HJ25.out; have := HK4.out; first | omega | exact Nat.le_refl _⟩, ⟨by (with_reducible repeat (first | apply Kd.V_alloc | apply Kd.V_drewN | apply Kd.V_drew)); exact HO_7.out⟩, ⟨by repeat (first | (with_reducible first | exact HB.out | apply below_alloc | apply pw_below_drewN | apply below_drew1) | exact HB.out)⟩⟩
                          case rest =>
                            clear HC32
                            try clear c1
                            try clear p1
                            try clear q1
                            try clear hx1
                            try clear c2
                            try clear p2
                            try clear q2
                            try clear hx2
                            try clear c3
                            try clear c4
                            try clear p6
                            try clear c10
                            try clear c10b0
                            try clear c10b1
                            try clear c10b2
                            try clear c14
                            try clear c15
                            try clear c15b0
                            try clear c16
                            try clear c16b0
                            try clear c17
                            try clear c17b0
                            try clear c18
                            try clear c18b0
                            try clear c19
                            try clear c19b0
                            try clear p19
                            try clear q19
                            try clear hx19
                            try clear c20
                            try clear c20b0
                            try clear p20
                            try clear q20
                            try clear hx20
                            try clear c21
                            try clear c21b0
                            try clear c22
                            try clear c22b0
                            try clear c22b1
                            try clear c28
                            try clear c28b0
                            try clear c28b1
                            try clear c29
                            try clear c29b0
                            try clear c30
                            try clear c31
                            try clear c31b0
                            try clear c33
                            try clear c33b0
                            try clear c33b1
                            try clear c35
                            try clear c35b0
                            try clear c36
                            try clear c36b0
                            try clear c37
                            try clear c37b0
                            try clear hx199_0
                            try clear hx200_0
                            try clear hx201_0
                            try clear hx202_0
                            try clear hx203_0
                            try clear hx206_0
                            try clear hx207_0
                            try clear p1
                            try clear p19
                            try clear p199
                            try clear p2
                            try clear p20
                            try clear p200
                            try clear p201
                            try clear p202
                            try clear p203
                            try clear p206
                            try clear p207
                            try clear p6
                            try clear q1
                            try clear q19
                            try clear q199
                            try clear q2
                            try clear q20
                            try clear q200
                            try clear q201
                            try clear q202
                            try clear q203
                            try clear q206
                            try clear q207
                            obtain ⟨kq, x113_31, rfl, HA, HJ31, HO_7, HB⟩ := hcut
                            cases kq with
                            | zero => exact absurd HA.out (by simp [columbariumlaw7_DictRules.j4])
                            | succ kj31 =>
                              have H := HA.out
                              clear HA
                              simp only [columbariumlaw7_DictRules.j4] at H
                              by_cases c38 : x113_31 = true
                              · subst c38
                                have H1 : (some false) = some r := by rw [if_pos rfl] at H; exact H
                                clear H
                                have H := H1
                                clear H1
                                as_aux_lemma =>
                                  exact absurd ((Option.some.inj H).trans hrt_.out) (by decide)
                              · replace c38 := Bool.eq_false_iff.mpr c38
                                subst c38
                                have H1 : (if 0 ≤ x12_4 then (if x12_4 < (t193.length : Int) then ((dict_Find.f kj31 t193 (rdOf ByteArray.empty t193 x12_4)).bind fun bt209 => (if ((rdOf ByteArray.empty t193 x12_4).size : Int) ≥ (a2.size : Int) then (if 0 ≤ (a2.size : Int) then (if (a2.size : Int) ≤ ((rdOf ByteArray.empty t193 x12_4).size : Int) then (if bt209.2 = true then (if bt209.1 = x12_4 then (if x12_4 ≥ t204 then (if ((((rdOf ByteArray.empty t193 x12_4).extract 0 ((a2.size : Int) : Int).toNat).toList == a2.toList) != (decide (x12_4 < t205))) = true then (some false) else (columbariumlaw7_DictRules.l1 kj31 l1 a2 t193 t204 t205 (wrap64 (x12_4 + 1)))) else (if ((((rdOf ByteArray.empty t193 x12_4).extract 0 ((a2.size : Int) : Int).toNat).toList == a2.toList) != false) = true then (some false) else (columbariumlaw7_DictRules.l1 kj31 l1 a2 t193 t204 t205 (wrap64 (x12_4 + 1))))) else (some false)) else (some false)) else (none)) else (none)) else (if bt209.2 = true then (if bt209.1 = x12_4 then (if x12_4 ≥ t204 then (if (false != (decide (x12_4 < t205))) = true then (some false) else (columbariumlaw7_DictRules.l1 kj31 l1 a2 t193 t204 t205 (wrap64 (x12_4 + 1)))) else (if (false != false) = true then (some false) else (columbariumlaw7_DictRules.l1 kj31 l1 a2 t193 t204 t205 (wrap64 (x12_4 + 1))))) else (some false)) else (some false)))) else (none)) else (none)) = some r := by rw [if_neg (show ¬ (false = true) by decide)] at H; exact H
                                clear H
                                have H := H1
                                clear H1
                                by_cases c39 : 0 ≤ x12_4
                                · rw [if_pos c39] at H
                                  have c39b0 : decide (0 ≤ x12_4) = true := decide_eq_true c39
                                  clear c39
                                  by_cases c40 : x12_4 < (t193.length : Int)
                                  · rw [if_pos c40] at H
                                    have c40b0 : decide (x12_4 < (t193.length : Int)) = true := decide_eq_true c40
                                    clear c40
                                    replace H := Option.bind_eq_some_iff.mp H
                                    obtain ⟨⟨t209, t210⟩, A410, H⟩ := H
                                    replace H : (if ((rdOf ByteArray.empty t193 x12_4).size : Int) ≥ (a2.size : Int) then (if 0 ≤ (a2.size : Int) then (if (a2.size : Int) ≤ ((rdOf ByteArray.empty t193 x12_4).size : Int) then (if t210 = true then (if t209 = x12_4 then (if x12_4 ≥ t204 then (if ((((rdOf ByteArray.empty t193 x12_4).extract 0 ((a2.size : Int) : Int).toNat).toList == a2.toList) != (decide (x12_4 < t205))) = true then (some false) else (columbariumlaw7_DictRules.l1 kj31 l1 a2 t193 t204 t205 (wrap64 (x12_4 + 1)))) else (if ((((rdOf ByteArray.empty t193 x12_4).extract 0 ((a2.size : Int) : Int).toNat).toList == a2.toList) != false) = true then (some false) else (columbariumlaw7_DictRules.l1 kj31 l1 a2 t193 t204 t205 (wrap64 (x12_4 + 1))))) else (some false)) else (some false)) else (none)) else (none)) else (if t210 = true then (if t209 = x12_4 then (if x12_4 ≥ t204 then (if (false != (decide (x12_4 < t205))) = true then (some false) else (columbariumlaw7_DictRules.l1 kj31 l1 a2 t193 t204 t205 (wrap64 (x12_4 + 1)))) else (if (false != false) = true then (some false) else (columbariumlaw7_DictRules.l1 kj31 l1 a2 t193 t204 t205 (wrap64 (x12_4 + 1))))) else (some false)) else (some false))) = some r := H
                                    have A41 := Aside0.mk A410
                                    clear A410
                                    by_cases c42 : ((rdOf ByteArray.empty t193 x12_4).size : Int) ≥ (a2.size : Int)
                                    · rw [if_pos c42] at H
                                      have c42b0 : decide ((a2.size : Int) ≤ ((rdOf ByteArray.empty t193 x12_4).size : Int)) = true := decide_eq_true c42
                                      have c42b1 : decide (a2.size ≤ (rdOf ByteArray.empty t193 x12_4).size) = true := decide_eq_true (Int.ofNat_le.mp c42)
                                      clear c42
                                      by_cases c43 : 0 ≤ (a2.size : Int)
                                      · rw [if_pos c43] at H
                                        have c43b0 := eq_true c43
                                        have c43b1 : decide (0 ≤ (a2.size : Int)) = true := decide_eq_true c43
                                        clear c43
                                        by_cases c44 : (a2.size : Int) ≤ ((rdOf ByteArray.empty t193 x12_4).size : Int)
                                        · rw [if_pos c44] at H
                                          have c44b0 := eq_true c44
                                          have c44b1 : decide ((a2.size : Int) ≤ ((rdOf ByteArray.empty t193 x12_4).size : Int)) = true := decide_eq_true c44
                                          clear c44
                                          by_cases c45 : t210 = true
                                          · subst c45
                                            have H1 : (if t209 = x12_4 then (if x12_4 ≥ t204 then (if ((((rdOf ByteArray.empty t193 x12_4).extract 0 ((a2.size : Int) : Int).toNat).toList == a2.toList) != (decide (x12_4 < t205))) = true then (some false) else (columbariumlaw7_DictRules.l1 kj31 l1 a2 t193 t204 t205 (wrap64 (x12_4 + 1)))) else (if ((((rdOf ByteArray.empty t193 x12_4).extract 0 ((a2.size : Int) : Int).toNat).toList == a2.toList) != false) = true then (some false) else (columbariumlaw7_DictRules.l1 kj31 l1 a2 t193 t204 t205 (wrap64 (x12_4 + 1))))) else (some false)) = some r := by rw [if_pos rfl] at H; exact H
                                            clear H
                                            have H := H1
                                            clear H1
                                            by_cases c46 : t209 = x12_4
                                            · rw [if_pos c46] at H
                                              have c46b0 : (t209 == x12_4) = true := beq_iff_eq.mpr c46
                                              have c46b1 : (t209 != x12_4) = false := bne_eq_false_iff_eq.mpr c46
                                              clear c46
                                              by_cases c47 : x12_4 ≥ t204
                                              · rw [if_pos c47] at H
                                                have c47b0 : decide (t204 ≤ x12_4) = true := decide_eq_true c47
                                                clear c47
                                                by_cases c48 : ((((rdOf ByteArray.empty t193 x12_4).extract 0 ((a2.size : Int) : Int).toNat).toList == a2.toList) != (decide (x12_4 < t205))) = true
                                                · rw [if_pos c48] at H
                                                  have c48b0 : ((((rdOf ByteArray.empty t193 x12_4).extract 0 ((a2.size : Int) : Int).toNat).toList == a2.toList) != (decide (x12_4 < t205))) = true := c48
                                                  (try (have c48b0d := c48b0; simp only [Int.toNat_natCast] at c48b0d))
                                                  (try (have c48b1 : decide ((((rdOf ByteArray.empty t193 x12_4).extract 0 ((a2.size : Int) : Int).toNat).toList == a2.toList) = (decide (x12_4 < t205))) = false := by simpa using c48))
                                                  (try (have c48b1d := c48b1; simp only [Int.toNat_natCast] at c48b1d))
                                                  (try (have c48b2 : ((((rdOf ByteArray.empty t193 x12_4).extract 0 ((a2.size : Int) : Int).toNat).toList == a2.toList) == (decide (x12_4 < t205))) = false := by simpa using c48))
                                                  (try (have c48b2d := c48b2; simp only [Int.toNat_natCast] at c48b2d))
                                                  (try (have c48b3 : ¬ ((((rdOf ByteArray.empty t193 x12_4).extract 0 ((a2.size : Int) : Int).toNat).toList == a2.toList) = (decide (x12_4 < t205))) := by simpa using c48))
                                                  clear c48
                                                  as_aux_lemma =>
                                                    exact absurd ((Option.some.inj H).trans hrt_.out) (by decide)
                                                · rw [if_neg c48] at H
                                                  have c48b0 : ((((rdOf ByteArray.empty t193 x12_4).extract 0 ((a2.size : Int) : Int).toNat).toList == a2.toList) != (decide (x12_4 < t205))) = false := by simpa using c48
                                                  (try (have c48b0d := c48b0; simp only [Int.toNat_natCast] at c48b0d))
                                                  (try (have c48b1 : decide ((((rdOf ByteArray.empty t193 x12_4).extract 0 ((a2.size : Int) : Int).toNat).toList == a2.toList) = (decide (x12_4 < t205))) = true := by simpa using c48))
                                                  (try (have c48b1d := c48b1; simp only [Int.toNat_natCast] at c48b1d))
                                                  (try (have c48b2 : ((((rdOf ByteArray.empty t193 x12_4).extract 0 ((a2.size : Int) : Int).toNat).toList == a2.toList) == (decide (x12_4 < t205))) = true := by simpa using c48))
                                                  (try (have c48b2d := c48b2; simp only [Int.toNat_natCast] at c48b2d))
                                                  clear c48
                                                  as_aux_lemma =>
                                                    have H' := Aside0.mk H
                                                    clear H
                                                    have p208 : 0 ≤ (x12_4 : Int) := of_decide_eq_true (by first | (with_reducible assumption) | assumption)
                                                    have q208 : x12_4 < (t193.length : Int) := of_decide_eq_true (by first | (with_reducible assumption) | assumption)
                                                    obtain ⟨ad208, e208, hx208_0⟩ := Kd.at_string (Kd.V_reads' HO_7.out).2.2 x12_4 p208 q208
                                                    cases e208
                                                    replace p208 := eq_true p208
                                                    replace q208 := eq_true q208
                                                    go_wp2_with (first | (go_at_call 14; (with_reducible refine (dict_Find.calls kj31 _ _ t193 (rdOf ByteArray.empty t193 x12_4) t209 true _ ?side1 ?side2 A41.out).mono ?_); (case side1 => repeat (first | exact (Kd.V_reads' HO_7.out).2.2 | (with_reducible refine Kd.C_alloc ?_ _) | (with_reducible refine Kd.C_drewN ?_ _) | (with_reducible refine Kd.C_drew ?_))); (case side2 => exact (Kd.V_reads' HO_7.out).2.1); rintro e w' ⟨rfl, ⟨nd, rfl⟩⟩; (try first | exact ⟨rfl, _, World.drewN_drewN _ _ _⟩ | exact ⟨rfl, _, Eq.trans (World.drewN_drewN _ _ _) (congrArg (World.drewN _) (Nat.add_assoc _ _ _))⟩); have p211 : 0 ≤ (x12_4 : Int) := of_decide_eq_true (by first | (with_reducible assumption) | assumption); have q211 : x12_4 < (t193.length : Int) := of_decide_eq_true (by first | (with_reducible assumption) | assumption); obtain ⟨ad211, e211, hx211_0⟩ := Kd.at_string (Kd.V_reads' HO_7.out).2.2 x12_4 p211 q211; obtain rfl : ad208 = ad211 := (by injection e211); replace p211 := eq_true p211; replace q211 := eq_true q211; have p212 : 0 ≤ (x12_4 : Int) := of_decide_eq_true (by first | (with_reducible assumption) | assumption); have q212 : x12_4 < (t193.length : Int) := of_decide_eq_true (by first | (with_reducible assumption) | assumption); obtain ⟨ad212, e212, hx212_0⟩ := Kd.at_string (Kd.V_reads' HO_7.out).2.2 x12_4 p212 q212; obtain rfl : ad208 = ad212 := (by injection e212); replace p212 := eq_true p212; replace q212 := eq_true q212))
                                                    repeat (go_quiet (first | (go_at_call 14; (with_reducible refine (dict_Find.calls kj31 _ _ t193 (rdOf ByteArray.empty t193 x12_4) t209 true _ ?side1 ?side2 A41.out).mono ?_); (case side1 => repeat (first | exact (Kd.V_reads' HO_7.out).2.2 | (with_reducible refine Kd.C_alloc ?_ _) | (with_reducible refine Kd.C_drewN ?_ _) | (with_reducible refine Kd.C_drew ?_))); (case side2 => exact (Kd.V_reads' HO_7.out).2.1); rintro e w' ⟨rfl, ⟨nd, rfl⟩⟩; (try first | exact ⟨rfl, _, World.drewN_drewN _ _ _⟩ | exact ⟨rfl, _, Eq.trans (World.drewN_drewN _ _ _) (congrArg (World.drewN _) (Nat.add_assoc _ _ _))⟩); have p211 : 0 ≤ (x12_4 : Int) := of_decide_eq_true (by first | (with_reducible assumption) | assumption); have q211 : x12_4 < (t193.length : Int) := of_decide_eq_true (by first | (with_reducible assumption) | assumption); obtain ⟨ad211, e211, hx211_0⟩ := Kd.at_string (Kd.V_reads' HO_7.out).2.2 x12_4 p211 q211; obtain rfl : ad208 = ad211 := (by injection e211); replace p211 := eq_true p211; replace q211 := eq_true q211; have p212 : 0 ≤ (x12_4 : Int) := of_decide_eq_true (by first | (with_reducible assumption) | assumption); have q212 : x12_4 < (t193.length : Int) := of_decide_eq_true (by first | (with_reducible assumption) | assumption); obtain ⟨ad212, e212, hx212_0⟩ := Kd.at_string (Kd.V_reads' HO_7.out).2.2 x12_4 p212 q212; obtain rfl : ad208 = ad212 := (by injection e212); replace p212 := eq_true p212; replace q212 := eq_true q212)); try go_wp2_with (first | (go_at_call 14; (with_reducible refine (dict_Find.calls kj31 _ _ t193 (rdOf ByteArray.empty t193 x12_4) t209 true _ ?side1 ?side2 A41.out).mono ?_); (case side1 => repeat (first | exact (Kd.V_reads' HO_7.out).2.2 | (with_reducible refine Kd.C_alloc ?_ _) | (with_reducible refine Kd.C_drewN ?_ _) | (with_reducible refine Kd.C_drew ?_))); (case side2 => exact (Kd.V_reads' HO_7.out).2.1); rintro e w' ⟨rfl, ⟨nd, rfl⟩⟩; (try first | exact ⟨rfl, _, World.drewN_drewN _ _ _⟩ | exact ⟨rfl, _, Eq.trans (World.drewN_drewN _ _ _) (congrArg (World.drewN _) (Nat.add_assoc _ _ _))⟩); have p211 : 0 ≤ (x12_4 : Int) := of_decide_eq_true (by first | (with_reducible assumption) | assumption); have q211 : x12_4 < (t193.length : Int) := of_decide_eq_true (by first | (with_reducible assumption) | assumption); obtain ⟨ad211, e211, hx211_0⟩ := Kd.at_string (Kd.V_reads' HO_7.out).2.2 x12_4 p211 q211; obtain rfl : ad208 = ad211 := (by injection e211); replace p211 := eq_true p211; replace q211 := eq_true q211; have p212 : 0 ≤ (x12_4 : Int) := of_decide_eq_true (by first | (with_reducible assumption) | assumption); have q212 : x12_4 < (t193.length : Int) := of_decide_eq_true (by first | (with_reducible assumption) | assumption); obtain ⟨ad212, e212, hx212_0⟩ := Kd.at_string (Kd.V_reads' HO_7.out).2.2 x12_4 p212 q212; obtain rfl : ad208 = ad212 := (by injection e212); replace p212 := eq_true p212; replace q212 := eq_true q212)))
                                                    go_roundg kj31
                                                    case measure => have := HJ5.out; have := HK2.out; have := HJ25.out; have := HK4.out; have := HJ31.out; omega
                                                    case rel => exact ⟨(wrap64 (x12_4 + 1)), (by first | rfl | (simp; done) | (simp [*]; done)), H', ⟨by have := HJ5.out; have := HK2.out; have := HJ25.out; have := HK4.out; have := HJ31.out; omega⟩, ⟨by (with_reducible repeat (first | apply Kd.V_alloc | apply Kd.V_drewN | apply Kd.V_drew)); exact HO_7.out⟩, ⟨by repeat (first | (with_reducible first | exact HB.out | apply below_alloc | apply pw_below_drewN | apply below_drew1) | exact HB.out)⟩⟩
                                              · rw [if_neg c47] at H
                                                have c47b0 : decide (t204 ≤ x12_4) = false := decide_eq_false c47
                                                clear c47
                                                by_cases c49 : ((((rdOf ByteArray.empty t193 x12_4).extract 0 ((a2.size : Int) : Int).toNat).toList == a2.toList) != false) = true
                                                · rw [if_pos c49] at H
                                                  have c49b0 : ((((rdOf ByteArray.empty t193 x12_4).extract 0 ((a2.size : Int) : Int).toNat).toList == a2.toList) != false) = true := c49
                                                  (try (have c49b0d := c49b0; simp only [Int.toNat_natCast] at c49b0d))
                                                  (try (have c49b1 : decide ((((rdOf ByteArray.empty t193 x12_4).extract 0 ((a2.size : Int) : Int).toNat).toList == a2.toList) = false) = false := by simpa using c49))
                                                  (try (have c49b1d := c49b1; simp only [Int.toNat_natCast] at c49b1d))
                                                  (try (have c49b2 : ((((rdOf ByteArray.empty t193 x12_4).extract 0 ((a2.size : Int) : Int).toNat).toList == a2.toList) == false) = false := by simpa using c49))
                                                  (try (have c49b2d := c49b2; simp only [Int.toNat_natCast] at c49b2d))
                                                  (try (have c49b3 : ¬ ((((rdOf ByteArray.empty t193 x12_4).extract 0 ((a2.size : Int) : Int).toNat).toList == a2.toList) = false) := by simpa using c49))
                                                  clear c49
                                                  as_aux_lemma =>
                                                    exact absurd ((Option.some.inj H).trans hrt_.out) (by decide)
                                                · rw [if_neg c49] at H
                                                  have c49b0 : ((((rdOf ByteArray.empty t193 x12_4).extract 0 ((a2.size : Int) : Int).toNat).toList == a2.toList) != false) = false := by simpa using c49
                                                  (try (have c49b0d := c49b0; simp only [Int.toNat_natCast] at c49b0d))
                                                  (try (have c49b1 : decide ((((rdOf ByteArray.empty t193 x12_4).extract 0 ((a2.size : Int) : Int).toNat).toList == a2.toList) = false) = true := by simpa using c49))
                                                  (try (have c49b1d := c49b1; simp only [Int.toNat_natCast] at c49b1d))
                                                  (try (have c49b2 : ((((rdOf ByteArray.empty t193 x12_4).extract 0 ((a2.size : Int) : Int).toNat).toList == a2.toList) == false) = true := by simpa using c49))
                                                  (try (have c49b2d := c49b2; simp only [Int.toNat_natCast] at c49b2d))
                                                  clear c49
                                                  as_aux_lemma =>
                                                    have H' := Aside0.mk H
                                                    clear H
                                                    have p208 : 0 ≤ (x12_4 : Int) := of_decide_eq_true (by first | (with_reducible assumption) | assumption)
                                                    have q208 : x12_4 < (t193.length : Int) := of_decide_eq_true (by first | (with_reducible assumption) | assumption)
                                                    obtain ⟨ad208, e208, hx208_0⟩ := Kd.at_string (Kd.V_reads' HO_7.out).2.2 x12_4 p208 q208
                                                    cases e208
                                                    replace p208 := eq_true p208
                                                    replace q208 := eq_true q208
                                                    go_wp2_with (first | (go_at_call 14; (with_reducible refine (dict_Find.calls kj31 _ _ t193 (rdOf ByteArray.empty t193 x12_4) t209 true _ ?side1 ?side2 A41.out).mono ?_); (case side1 => repeat (first | exact (Kd.V_reads' HO_7.out).2.2 | (with_reducible refine Kd.C_alloc ?_ _) | (with_reducible refine Kd.C_drewN ?_ _) | (with_reducible refine Kd.C_drew ?_))); (case side2 => exact (Kd.V_reads' HO_7.out).2.1); rintro e w' ⟨rfl, ⟨nd, rfl⟩⟩; (try first | exact ⟨rfl, _, World.drewN_drewN _ _ _⟩ | exact ⟨rfl, _, Eq.trans (World.drewN_drewN _ _ _) (congrArg (World.drewN _) (Nat.add_assoc _ _ _))⟩); have p211 : 0 ≤ (x12_4 : Int) := of_decide_eq_true (by first | (with_reducible assumption) | assumption); have q211 : x12_4 < (t193.length : Int) := of_decide_eq_true (by first | (with_reducible assumption) | assumption); obtain ⟨ad211, e211, hx211_0⟩ := Kd.at_string (Kd.V_reads' HO_7.out).2.2 x12_4 p211 q211; obtain rfl : ad208 = ad211 := (by injection e211); replace p211 := eq_true p211; replace q211 := eq_true q211; have p212 : 0 ≤ (x12_4 : Int) := of_decide_eq_true (by first | (with_reducible assumption) | assumption); have q212 : x12_4 < (t193.length : Int) := of_decide_eq_true (by first | (with_reducible assumption) | assumption); obtain ⟨ad212, e212, hx212_0⟩ := Kd.at_string (Kd.V_reads' HO_7.out).2.2 x12_4 p212 q212; obtain rfl : ad208 = ad212 := (by injection e212); replace p212 := eq_true p212; replace q212 := eq_true q212))
                                                    repeat (go_quiet (first | (go_at_call 14; (with_reducible refine (dict_Find.calls kj31 _ _ t193 (rdOf ByteArray.empty t193 x12_4) t209 true _ ?side1 ?side2 A41.out).mono ?_); (case side1 => repeat (first | exact (Kd.V_reads' HO_7.out).2.2 | (with_reducible refine Kd.C_alloc ?_ _) | (with_reducible refine Kd.C_drewN ?_ _) | (with_reducible refine Kd.C_drew ?_))); (case side2 => exact (Kd.V_reads' HO_7.out).2.1); rintro e w' ⟨rfl, ⟨nd, rfl⟩⟩; (try first | exact ⟨rfl, _, World.drewN_drewN _ _ _⟩ | exact ⟨rfl, _, Eq.trans (World.drewN_drewN _ _ _) (congrArg (World.drewN _) (Nat.add_assoc _ _ _))⟩); have p211 : 0 ≤ (x12_4 : Int) := of_decide_eq_true (by first | (with_reducible assumption) | assumption); have q211 : x12_4 < (t193.length : Int) := of_decide_eq_true (by first | (with_reducible assumption) | assumption); obtain ⟨ad211, e211, hx211_0⟩ := Kd.at_string (Kd.V_reads' HO_7.out).2.2 x12_4 p211 q211; obtain rfl : ad208 = ad211 := (by injection e211); replace p211 := eq_true p211; replace q211 := eq_true q211; have p212 : 0 ≤ (x12_4 : Int) := of_decide_eq_true (by first | (with_reducible assumption) | assumption); have q212 : x12_4 < (t193.length : Int) := of_decide_eq_true (by first | (with_reducible assumption) | assumption); obtain ⟨ad212, e212, hx212_0⟩ := Kd.at_string (Kd.V_reads' HO_7.out).2.2 x12_4 p212 q212; obtain rfl : ad208 = ad212 := (by injection e212); replace p212 := eq_true p212; replace q212 := eq_true q212)); try go_wp2_with (first | (go_at_call 14; (with_reducible refine (dict_Find.calls kj31 _ _ t193 (rdOf ByteArray.empty t193 x12_4) t209 true _ ?side1 ?side2 A41.out).mono ?_); (case side1 => repeat (first | exact (Kd.V_reads' HO_7.out).2.2 | (with_reducible refine Kd.C_alloc ?_ _) | (with_reducible refine Kd.C_drewN ?_ _) | (with_reducible refine Kd.C_drew ?_))); (case side2 => exact (Kd.V_reads' HO_7.out).2.1); rintro e w' ⟨rfl, ⟨nd, rfl⟩⟩; (try first | exact ⟨rfl, _, World.drewN_drewN _ _ _⟩ | exact ⟨rfl, _, Eq.trans (World.drewN_drewN _ _ _) (congrArg (World.drewN _) (Nat.add_assoc _ _ _))⟩); have p211 : 0 ≤ (x12_4 : Int) := of_decide_eq_true (by first | (with_reducible assumption) | assumption); have q211 : x12_4 < (t193.length : Int) := of_decide_eq_true (by first | (with_reducible assumption) | assumption); obtain ⟨ad211, e211, hx211_0⟩ := Kd.at_string (Kd.V_reads' HO_7.out).2.2 x12_4 p211 q211; obtain rfl : ad208 = ad211 := (by injection e211); replace p211 := eq_true p211; replace q211 := eq_true q211; have p212 : 0 ≤ (x12_4 : Int) := of_decide_eq_true (by first | (with_reducible assumption) | assumption); have q212 : x12_4 < (t193.length : Int) := of_decide_eq_true (by first | (with_reducible assumption) | assumption); obtain ⟨ad212, e212, hx212_0⟩ := Kd.at_string (Kd.V_reads' HO_7.out).2.2 x12_4 p212 q212; obtain rfl : ad208 = ad212 := (by injection e212); replace p212 := eq_true p212; replace q212 := eq_true q212)))
                                                    go_roundg kj31
                                                    case measure => have := HJ5.out; have := HK2.out; have := HJ25.out; have := HK4.out; have := HJ31.out; omega
                                                    case rel => exact ⟨(wrap64 (x12_4 + 1)), (by first | rfl | (simp; done) | (simp [*]; done)), H', ⟨by have := HJ5.out; have := HK2.out; have := HJ25.out; have := HK4.out; have := HJ31.out; omega⟩, ⟨by (with_reducible repeat (first | apply Kd.V_alloc | apply Kd.V_drewN | apply Kd.V_drew)); exact HO_7.out⟩, ⟨by repeat (first | (with_reducible first | exact HB.out | apply below_alloc | apply pw_below_drewN | apply below_drew1) | exact HB.out)⟩⟩
                                            · rw [if_neg c46] at H
                                              have c46b0 : (t209 == x12_4) = false := beq_eq_false_iff_ne.mpr c46
                                              have c46b1 : (t209 != x12_4) = true := bne_iff_ne.mpr c46
                                              as_aux_lemma =>
                                                exact absurd ((Option.some.inj H).trans hrt_.out) (by decide)
                                          · replace c45 := Bool.eq_false_iff.mpr c45
                                            subst c45
                                            have H1 : (some false) = some r := by rw [if_neg (show ¬ (false = true) by decide)] at H; exact H
                                            clear H
                                            have H := H1
                                            clear H1
                                            as_aux_lemma =>
                                              exact absurd ((Option.some.inj H).trans hrt_.out) (by decide)
                                        · rw [if_neg c44] at H
                                          exact absurd H (by simp)
                                      · rw [if_neg c43] at H
                                        exact absurd H (by simp)
                                    · rw [if_neg c42] at H
                                      have c42b0 : decide ((a2.size : Int) ≤ ((rdOf ByteArray.empty t193 x12_4).size : Int)) = false := decide_eq_false c42
                                      have c42b1 : decide (a2.size ≤ (rdOf ByteArray.empty t193 x12_4).size) = false := decide_eq_false (fun h => c42 (Int.ofNat_le.mpr h))
                                      clear c42
                                      by_cases c50 : t210 = true
                                      · subst c50
                                        have H1 : (if t209 = x12_4 then (if x12_4 ≥ t204 then (if (false != (decide (x12_4 < t205))) = true then (some false) else (columbariumlaw7_DictRules.l1 kj31 l1 a2 t193 t204 t205 (wrap64 (x12_4 + 1)))) else (if (false != false) = true then (some false) else (columbariumlaw7_DictRules.l1 kj31 l1 a2 t193 t204 t205 (wrap64 (x12_4 + 1))))) else (some false)) = some r := by rw [if_pos rfl] at H; exact H
                                        clear H
                                        have H := H1
                                        clear H1
                                        by_cases c51 : t209 = x12_4
                                        · rw [if_pos c51] at H
                                          have c51b0 : (t209 == x12_4) = true := beq_iff_eq.mpr c51
                                          have c51b1 : (t209 != x12_4) = false := bne_eq_false_iff_eq.mpr c51
                                          clear c51
                                          by_cases c52 : x12_4 ≥ t204
                                          · rw [if_pos c52] at H
                                            have c52b0 : decide (t204 ≤ x12_4) = true := decide_eq_true c52
                                            clear c52
                                            by_cases c53 : (false != (decide (x12_4 < t205))) = true
                                            · rw [if_pos c53] at H
                                              have c53b0 : (false != (decide (x12_4 < t205))) = true := c53
                                              (try (have c53b1 : decide (false = (decide (x12_4 < t205))) = false := by simpa using c53))
                                              (try (have c53b2 : (false == (decide (x12_4 < t205))) = false := by simpa using c53))
                                              (try (have c53b3 : ¬ (false = (decide (x12_4 < t205))) := by simpa using c53))
                                              clear c53
                                              as_aux_lemma =>
                                                exact absurd ((Option.some.inj H).trans hrt_.out) (by decide)
                                            · rw [if_neg c53] at H
                                              have c53b0 : (false != (decide (x12_4 < t205))) = false := by simpa using c53
                                              (try (have c53b1 : decide (false = (decide (x12_4 < t205))) = true := by simpa using c53))
                                              (try (have c53b2 : (false == (decide (x12_4 < t205))) = true := by simpa using c53))
                                              clear c53
                                              as_aux_lemma =>
                                                have H' := Aside0.mk H
                                                clear H
                                                have p208 : 0 ≤ (x12_4 : Int) := of_decide_eq_true (by first | (with_reducible assumption) | assumption)
                                                have q208 : x12_4 < (t193.length : Int) := of_decide_eq_true (by first | (with_reducible assumption) | assumption)
                                                obtain ⟨ad208, e208, hx208_0⟩ := Kd.at_string (Kd.V_reads' HO_7.out).2.2 x12_4 p208 q208
                                                cases e208
                                                replace p208 := eq_true p208
                                                replace q208 := eq_true q208
                                                go_wp2_with (first | (go_at_call 14; (with_reducible refine (dict_Find.calls kj31 _ _ t193 (rdOf ByteArray.empty t193 x12_4) t209 true _ ?side1 ?side2 A41.out).mono ?_); (case side1 => repeat (first | exact (Kd.V_reads' HO_7.out).2.2 | (with_reducible refine Kd.C_alloc ?_ _) | (with_reducible refine Kd.C_drewN ?_ _) | (with_reducible refine Kd.C_drew ?_))); (case side2 => exact (Kd.V_reads' HO_7.out).2.1); rintro e w' ⟨rfl, ⟨nd, rfl⟩⟩; (try first | exact ⟨rfl, _, World.drewN_drewN _ _ _⟩ | exact ⟨rfl, _, Eq.trans (World.drewN_drewN _ _ _) (congrArg (World.drewN _) (Nat.add_assoc _ _ _))⟩); have p211 : 0 ≤ (x12_4 : Int) := of_decide_eq_true (by first | (with_reducible assumption) | assumption); have q211 : x12_4 < (t193.length : Int) := of_decide_eq_true (by first | (with_reducible assumption) | assumption); obtain ⟨ad211, e211, hx211_0⟩ := Kd.at_string (Kd.V_reads' HO_7.out).2.2 x12_4 p211 q211; obtain rfl : ad208 = ad211 := (by injection e211); replace p211 := eq_true p211; replace q211 := eq_true q211))
                                                repeat (go_quiet (first | (go_at_call 14; (with_reducible refine (dict_Find.calls kj31 _ _ t193 (rdOf ByteArray.empty t193 x12_4) t209 true _ ?side1 ?side2 A41.out).mono ?_); (case side1 => repeat (first | exact (Kd.V_reads' HO_7.out).2.2 | (with_reducible refine Kd.C_alloc ?_ _) | (with_reducible refine Kd.C_drewN ?_ _) | (with_reducible refine Kd.C_drew ?_))); (case side2 => exact (Kd.V_reads' HO_7.out).2.1); rintro e w' ⟨rfl, ⟨nd, rfl⟩⟩; (try first | exact ⟨rfl, _, World.drewN_drewN _ _ _⟩ | exact ⟨rfl, _, Eq.trans (World.drewN_drewN _ _ _) (congrArg (World.drewN _) (Nat.add_assoc _ _ _))⟩); have p211 : 0 ≤ (x12_4 : Int) := of_decide_eq_true (by first | (with_reducible assumption) | assumption); have q211 : x12_4 < (t193.length : Int) := of_decide_eq_true (by first | (with_reducible assumption) | assumption); obtain ⟨ad211, e211, hx211_0⟩ := Kd.at_string (Kd.V_reads' HO_7.out).2.2 x12_4 p211 q211; obtain rfl : ad208 = ad211 := (by injection e211); replace p211 := eq_true p211; replace q211 := eq_true q211)); try go_wp2_with (first | (go_at_call 14; (with_reducible refine (dict_Find.calls kj31 _ _ t193 (rdOf ByteArray.empty t193 x12_4) t209 true _ ?side1 ?side2 A41.out).mono ?_); (case side1 => repeat (first | exact (Kd.V_reads' HO_7.out).2.2 | (with_reducible refine Kd.C_alloc ?_ _) | (with_reducible refine Kd.C_drewN ?_ _) | (with_reducible refine Kd.C_drew ?_))); (case side2 => exact (Kd.V_reads' HO_7.out).2.1); rintro e w' ⟨rfl, ⟨nd, rfl⟩⟩; (try first | exact ⟨rfl, _, World.drewN_drewN _ _ _⟩ | exact ⟨rfl, _, Eq.trans (World.drewN_drewN _ _ _) (congrArg (World.drewN _) (Nat.add_assoc _ _ _))⟩); have p211 : 0 ≤ (x12_4 : Int) := of_decide_eq_true (by first | (with_reducible assumption) | assumption); have q211 : x12_4 < (t193.length : Int) := of_decide_eq_true (by first | (with_reducible assumption) | assumption); obtain ⟨ad211, e211, hx211_0⟩ := Kd.at_string (Kd.V_reads' HO_7.out).2.2 x12_4 p211 q211; obtain rfl : ad208 = ad211 := (by injection e211); replace p211 := eq_true p211; replace q211 := eq_true q211)))
                                                go_roundg kj31
                                                case measure => have := HJ5.out; have := HK2.out; have := HJ25.out; have := HK4.out; have := HJ31.out; omega
                                                case rel => exact ⟨(wrap64 (x12_4 + 1)), (by first | rfl | (simp; done) | (simp [*]; done)), H', ⟨by have := HJ5.out; have := HK2.out; have := HJ25.out; have := HK4.out; have := HJ31.out; omega⟩, ⟨by (with_reducible repeat (first | apply Kd.V_alloc | apply Kd.V_drewN | apply Kd.V_drew)); exact HO_7.out⟩, ⟨by repeat (first | (with_reducible first | exact HB.out | apply below_alloc | apply pw_below_drewN | apply below_drew1) | exact HB.out)⟩⟩
                                          · rw [if_neg c52] at H
                                            have c52b0 : decide (t204 ≤ x12_4) = false := decide_eq_false c52
                                            clear c52
                                            by_cases c54 : (false != false) = true
                                            · rw [if_pos c54] at H
                                              have c54b0 : (false != false) = true := c54
                                              (try (have c54b1 : decide (false = false) = false := by first | decide | exact absurd c54 (by decide)))
                                              (try (have c54b2 : (false == false) = false := by first | decide | exact absurd c54 (by decide)))
                                              (try (have c54b3 : ¬ (false = false) := by first | decide | exact absurd c54 (by decide)))
                                              clear c54
                                              as_aux_lemma =>
                                                exact absurd ((Option.some.inj H).trans hrt_.out) (by decide)
                                            · rw [if_neg c54] at H
                                              have c54b0 : (false != false) = false := by first | decide | exact absurd c54 (by decide)
                                              (try (have c54b1 : decide (false = false) = true := by first | decide | exact absurd c54 (by decide)))
                                              (try (have c54b2 : (false == false) = true := by first | decide | exact absurd c54 (by decide)))
                                              clear c54
                                              as_aux_lemma =>
                                                have H' := Aside0.mk H
                                                clear H
                                                have p208 : 0 ≤ (x12_4 : Int) := of_decide_eq_true (by first | (with_reducible assumption) | assumption)
                                                have q208 : x12_4 < (t193.length : Int) := of_decide_eq_true (by first | (with_reducible assumption) | assumption)
                                                obtain ⟨ad208, e208, hx208_0⟩ := Kd.at_string (Kd.V_reads' HO_7.out).2.2 x12_4 p208 q208
                                                cases e208
                                                replace p208 := eq_true p208
                                                replace q208 := eq_true q208
                                                go_wp2_with (first | (go_at_call 14; (with_reducible refine (dict_Find.calls kj31 _ _ t193 (rdOf ByteArray.empty t193 x12_4) t209 true _ ?side1 ?side2 A41.out).mono ?_); (case side1 => repeat (first | exact (Kd.V_reads' HO_7.out).2.2 | (with_reducible refine Kd.C_alloc ?_ _) | (with_reducible refine Kd.C_drewN ?_ _) | (with_reducible refine Kd.C_drew ?_))); (case side2 => exact (Kd.V_reads' HO_7.out).2.1); rintro e w' ⟨rfl, ⟨nd, rfl⟩⟩; (try first | exact ⟨rfl, _, World.drewN_drewN _ _ _⟩ | exact ⟨rfl, _, Eq.trans (World.drewN_drewN _ _ _) (congrArg (World.drewN _) (Nat.add_assoc _ _ _))⟩); have p211 : 0 ≤ (x12_4 : Int) := of_decide_eq_true (by first | (with_reducible assumption) | assumption); have q211 : x12_4 < (t193.length : Int) := of_decide_eq_true (by first | (with_reducible assumption) | assumption); obtain ⟨ad211, e211, hx211_0⟩ := Kd.at_string (Kd.V_reads' HO_7.out).2.2 x12_4 p211 q211; obtain rfl : ad208 = ad211 := (by injection e211); replace p211 := eq_true p211; replace q211 := eq_true q211))
                                                repeat (go_quiet (first | (go_at_call 14; (with_reducible refine (dict_Find.calls kj31 _ _ t193 (rdOf ByteArray.empty t193 x12_4) t209 true _ ?side1 ?side2 A41.out).mono ?_); (case side1 => repeat (first | exact (Kd.V_reads' HO_7.out).2.2 | (with_reducible refine Kd.C_alloc ?_ _) | (with_reducible refine Kd.C_drewN ?_ _) | (with_reducible refine Kd.C_drew ?_))); (case side2 => exact (Kd.V_reads' HO_7.out).2.1); rintro e w' ⟨rfl, ⟨nd, rfl⟩⟩; (try first | exact ⟨rfl, _, World.drewN_drewN _ _ _⟩ | exact ⟨rfl, _, Eq.trans (World.drewN_drewN _ _ _) (congrArg (World.drewN _) (Nat.add_assoc _ _ _))⟩); have p211 : 0 ≤ (x12_4 : Int) := of_decide_eq_true (by first | (with_reducible assumption) | assumption); have q211 : x12_4 < (t193.length : Int) := of_decide_eq_true (by first | (with_reducible assumption) | assumption); obtain ⟨ad211, e211, hx211_0⟩ := Kd.at_string (Kd.V_reads' HO_7.out).2.2 x12_4 p211 q211; obtain rfl : ad208 = ad211 := (by injection e211); replace p211 := eq_true p211; replace q211 := eq_true q211)); try go_wp2_with (first | (go_at_call 14; (with_reducible refine (dict_Find.calls kj31 _ _ t193 (rdOf ByteArray.empty t193 x12_4) t209 true _ ?side1 ?side2 A41.out).mono ?_); (case side1 => repeat (first | exact (Kd.V_reads' HO_7.out).2.2 | (with_reducible refine Kd.C_alloc ?_ _) | (with_reducible refine Kd.C_drewN ?_ _) | (with_reducible refine Kd.C_drew ?_))); (case side2 => exact (Kd.V_reads' HO_7.out).2.1); rintro e w' ⟨rfl, ⟨nd, rfl⟩⟩; (try first | exact ⟨rfl, _, World.drewN_drewN _ _ _⟩ | exact ⟨rfl, _, Eq.trans (World.drewN_drewN _ _ _) (congrArg (World.drewN _) (Nat.add_assoc _ _ _))⟩); have p211 : 0 ≤ (x12_4 : Int) := of_decide_eq_true (by first | (with_reducible assumption) | assumption); have q211 : x12_4 < (t193.length : Int) := of_decide_eq_true (by first | (with_reducible assumption) | assumption); obtain ⟨ad211, e211, hx211_0⟩ := Kd.at_string (Kd.V_reads' HO_7.out).2.2 x12_4 p211 q211; obtain rfl : ad208 = ad211 := (by injection e211); replace p211 := eq_true p211; replace q211 := eq_true q211)))
                                                go_roundg kj31
                                                case measure => have := HJ5.out; have := HK2.out; have := HJ25.out; have := HK4.out; have := HJ31.out; omega
                                                case rel => exact ⟨(wrap64 (x12_4 + 1)), (by first | rfl | (simp; done) | (simp [*]; done)), H', ⟨by have := HJ5.out; have := HK2.out; have := HJ25.out; have := HK4.out; have := HJ31.out; omega⟩, ⟨by (with_reducible repeat (first | apply Kd.V_alloc | apply Kd.V_drewN | apply Kd.V_drew)); exact HO_7.out⟩, ⟨by repeat (first | (with_reducible first | exact HB.out | apply below_alloc | apply pw_below_drewN | apply below_drew1) | exact HB.out)⟩⟩
                                        · rw [if_neg c51] at H
                                          have c51b0 : (t209 == x12_4) = false := beq_eq_false_iff_ne.mpr c51
                                          have c51b1 : (t209 != x12_4) = true := bne_iff_ne.mpr c51
                                          as_aux_lemma =>
                                            exact absurd ((Option.some.inj H).trans hrt_.out) (by decide)
                                      · replace c50 := Bool.eq_false_iff.mpr c50
                                        subst c50
                                        have H1 : (some false) = some r := by rw [if_neg (show ¬ (false = true) by decide)] at H; exact H
                                        clear H
                                        have H := H1
                                        clear H1
                                        as_aux_lemma =>
                                          exact absurd ((Option.some.inj H).trans hrt_.out) (by decide)
                                  · rw [if_neg c40] at H
                                    exact absurd H (by simp)
                                · rw [if_neg c39] at H
                                  exact absurd H (by simp)
                        · rw [if_neg c31] at H
                          have c31b0 : decide (x12_4 < (t193.length : Int)) = false := decide_eq_false c31
                          clear c31
                          replace H := Option.bind_eq_some_iff.mp H
                          obtain ⟨t213, A550, H⟩ := H
                          replace H : ((dict_Build.f k4 t213).bind fun bt216 => ((dict_Merge.f k4 (([t193, bt216.1] : List (List ByteArray)))).bind fun bt225 => (if (bt225.2.length : Int) = 2 then (if 0 < (bt225.2.length : Int) then (if ((rd_L3 bt225.2 0).length : Int) = (t193.length : Int) then (if 1 < (bt225.2.length : Int) then (if ((rd_L3 bt225.2 1).length : Int) = (bt216.1.length : Int) then (columbariumlaw7_DictRules.j5 k4 t193 bt216.1 bt225.1 bt225.2 (decide ((bt225.1.length : Int) > (wrap64 ((t193.length : Int) + (bt216.1.length : Int)))))) else (columbariumlaw7_DictRules.j5 k4 t193 bt216.1 bt225.1 bt225.2 true)) else (none)) else (columbariumlaw7_DictRules.j5 k4 t193 bt216.1 bt225.1 bt225.2 true)) else (none)) else (columbariumlaw7_DictRules.j5 k4 t193 bt216.1 bt225.1 bt225.2 true)))) = some r := H
                          have A55 := Aside0.mk A550
                          clear A550
                          replace H := Option.bind_eq_some_iff.mp H
                          obtain ⟨⟨t216, t219⟩, A560, H⟩ := H
                          replace H : ((dict_Merge.f k4 (([t193, t216] : List (List ByteArray)))).bind fun bt225 => (if (bt225.2.length : Int) = 2 then (if 0 < (bt225.2.length : Int) then (if ((rd_L3 bt225.2 0).length : Int) = (t193.length : Int) then (if 1 < (bt225.2.length : Int) then (if ((rd_L3 bt225.2 1).length : Int) = (t216.length : Int) then (columbariumlaw7_DictRules.j5 k4 t193 t216 bt225.1 bt225.2 (decide ((bt225.1.length : Int) > (wrap64 ((t193.length : Int) + (t216.length : Int)))))) else (columbariumlaw7_DictRules.j5 k4 t193 t216 bt225.1 bt225.2 true)) else (none)) else (columbariumlaw7_DictRules.j5 k4 t193 t216 bt225.1 bt225.2 true)) else (none)) else (columbariumlaw7_DictRules.j5 k4 t193 t216 bt225.1 bt225.2 true))) = some r := H
                          have A56 := Aside0.mk A560
                          clear A560
                          obtain ⟨y222, hy222⟩ : ∃ y_ : List (List ByteArray), y_ = (([t193, t216] : List (List ByteArray))) := ⟨_, rfl⟩
                          replace H : ((dict_Merge.f k4 y222).bind fun bt225 => (if (bt225.2.length : Int) = 2 then (if 0 < (bt225.2.length : Int) then (if ((rd_L3 bt225.2 0).length : Int) = (t193.length : Int) then (if 1 < (bt225.2.length : Int) then (if ((rd_L3 bt225.2 1).length : Int) = (t216.length : Int) then (columbariumlaw7_DictRules.j5 k4 t193 t216 bt225.1 bt225.2 (decide ((bt225.1.length : Int) > (wrap64 ((t193.length : Int) + (t216.length : Int)))))) else (columbariumlaw7_DictRules.j5 k4 t193 t216 bt225.1 bt225.2 true)) else (none)) else (columbariumlaw7_DictRules.j5 k4 t193 t216 bt225.1 bt225.2 true)) else (none)) else (columbariumlaw7_DictRules.j5 k4 t193 t216 bt225.1 bt225.2 true))) = some r := by first | (rw [hy222]; with_reducible exact H) | (have H2_ := (Option.bind_some _ _).symm.trans H; rw [hy222]; with_reducible exact H2_) | (have H2_ := (Option.bind_some _ _).symm.trans H; with_reducible exact H2_) | with_reducible exact H | (rw [hy222]; exact H) | exact H
                          have Ny222 := Aside0.mk hy222
                          clear hy222
                          replace H := Option.bind_eq_some_iff.mp H
                          obtain ⟨⟨t225, t228⟩, A570, H⟩ := H
                          replace H : (if (t228.length : Int) = 2 then (if 0 < (t228.length : Int) then (if ((rd_L3 t228 0).length : Int) = (t193.length : Int) then (if 1 < (t228.length : Int) then (if ((rd_L3 t228 1).length : Int) = (t216.length : Int) then (columbariumlaw7_DictRules.j5 k4 t193 t216 t225 t228 (decide ((t225.length : Int) > (wrap64 ((t193.length : Int) + (t216.length : Int)))))) else (columbariumlaw7_DictRules.j5 k4 t193 t216 t225 t228 true)) else (none)) else (columbariumlaw7_DictRules.j5 k4 t193 t216 t225 t228 true)) else (none)) else (columbariumlaw7_DictRules.j5 k4 t193 t216 t225 t228 true)) = some r := H
                          have A57 := Aside0.mk A570
                          clear A570
                          have HC58 := Aside0.mk H
                          clear H
                          go_upto_region 24 with (first | (go_at_call 9; (with_reducible refine (columbariumlaw7_few.calls k4 _ _ l1 t213 _ ?side1 ?side2 A55.out).mono ?_); (case side1 => repeat (first | exact (Kd.C_below HR1.out HB.out) | (with_reducible refine Kd.C_alloc ?_ _) | (with_reducible refine Kd.C_drewN ?_ _) | (with_reducible refine Kd.C_drew ?_))); (case side2 => exact HC1.out); rintro e w59 ⟨v214, rfl, ho0, hb⟩; have n0_ := Aside0.mk (Kd.V_elder' (by (with_reducible repeat (first | apply Kd.V_alloc | apply Kd.V_drewN | apply Kd.V_drew)); exact HO_7.out) (Kd.R_base ho0) hb); have n1_ := Aside0.mk (Kd.R_lower ho0 (below_size (by repeat (first | (with_reducible first | exact HB.out | apply below_alloc | apply pw_below_drewN | apply below_drew1) | exact HB.out)))); have n2_ := Aside0.mk (below_step (by repeat (first | (with_reducible first | exact HB.out | apply below_alloc | apply pw_below_drewN | apply below_drew1) | exact HB.out)) hb); clear HO_7; clear HB; have HO_7 := n0_; have HO215 := n1_; have HB := n2_; clear n0_ n1_ n2_; (try clear hb); (try clear hb2); (try clear hk); (try clear hi); (try clear ho0); obtain ⟨Ao60, co60, eo60⟩ := Kd.R_slice HO215.out; subst eo60) | (go_at_call 8; (with_reducible refine (dict_Build.calls k4 _ _ t213 t216 t219 _ ?side1 ?side2 A56.out).mono ?_); (case side1 => repeat (first | exact (Kd.R_reads' HO215.out).2.2 | (with_reducible refine Kd.C_alloc ?_ _) | (with_reducible refine Kd.C_drewN ?_ _) | (with_reducible refine Kd.C_drew ?_))); (case side2 => exact (Kd.R_reads' HO215.out).2.1); rintro e w61 ⟨v217, v220, rfl, ho0, ho1, hb⟩; have n0_ := Aside0.mk (Kd.V_elder' (by (with_reducible repeat (first | apply Kd.V_alloc | apply Kd.V_drewN | apply Kd.V_drew)); exact HO_7.out) (Kd.R_base ho1) hb); have n1_ := Aside0.mk (Kd.R_below (by (with_reducible repeat (first | apply Kd.R_alloc | apply Kd.R_drewN | apply Kd.R_drew)); exact HO215.out) hb); have n2_ := Aside0.mk (Kd.V_lower (Kd.V_mono (ok' := fun k_ => some k_ ≠ (v220 : Value).ownBlock ∧ some k_ ≠ (.slice Ao60 t213.length co60 : Value).ownBlock) ho0 (fun k_ hk_ => ⟨hk_.2, (Kd.fresh' (Kd.R_lt (by (with_reducible repeat (first | apply Kd.R_alloc | apply Kd.R_drewN | apply Kd.R_drew)); exact HO215.out)) k_ hk_.1)⟩)) (below_size (by repeat (first | (with_reducible first | exact HB.out | apply below_alloc | apply pw_below_drewN | apply below_drew1) | exact HB.out)))); have n3_ := Aside0.mk (Kd.R_lower (Kd.R_mono (ok' := fun k_ => True) ho1 (fun _ hk_ => trivial)) (below_size (by repeat (first | (with_reducible first | exact HB.out | apply below_alloc | apply pw_below_drewN | apply below_drew1) | exact HB.out)))); have n4_ := Aside0.mk (below_step (by repeat (first | (with_reducible first | exact HB.out | apply below_alloc | apply pw_below_drewN | apply below_drew1) | exact HB.out)) hb); clear HO_7; clear HO215; clear HB; have HO_7 := n0_; have HO215 := n1_; have HO218 := n2_; have HO221 := n3_; have HB := n4_; clear n0_ n1_ n2_ n3_ n4_; (try clear hb); (try clear hb2); (try clear hk); (try clear hi); (try clear ho0); (try clear ho1); obtain ⟨Ao62, co62, eo62⟩ := Kd.V_slice HO218.out; subst eo62) | ((with_reducible refine gate_dst (N := 170) rfl ?_); (try (refine gate_guard (by rfl) ?_; dsimp only)); refine Kd.N_lit (Kd.slice 9 Kd.string) _ 22 ?hg (N' := 170) ?hd (xs := ([t193, t216] : List (List ByteArray))) (inner := [.slice Ao27 t193.length co27, .slice Ao62 t216.length co62]) (ok := (fun k_ => some k_ ≠ (.slice Ao60 t213.length co60 : Value).ownBlock ∧ some k_ ≠ (v220 : Value).ownBlock)) (okp := (fun k_ => some k_ ≠ (.slice Ao60 t213.length co60 : Value).ownBlock ∧ some k_ ≠ (v220 : Value).ownBlock)) ?hr ?hp (fun _ hk => hk) ((show ∀ k_, w61.heap.size ≤ k_ → (fun k_ => some k_ ≠ (.slice Ao60 t213.length co60 : Value).ownBlock ∧ some k_ ≠ (v220 : Value).ownBlock) k_ from fun k_ hk => ⟨Kd.fresh' (Kd.R_lt (by (with_reducible repeat (first | apply Kd.R_alloc | apply Kd.R_drewN | apply Kd.R_drew)); exact HO215.out)) k_ hk, Kd.fresh' (Kd.R_lt (by (with_reducible repeat (first | apply Kd.R_alloc | apply Kd.R_drewN | apply Kd.R_drew)); exact HO221.out)) k_ hk⟩) _ (Nat.le_refl _)) (Below.refl _ _) (Nat.le_refl _) (by simp) ?_; (case hd => rfl); (case hg => rfl); (case hr => first | (go_simp; done) | (go_simp; rfl)); (case hp => exact (Reps.one (show Kd.FK (Kd.slice 9 Kd.string) _ _ t193 [.slice Ao27 t193.length co27] from (Kd.FK_slice_mk (Kd.V_reads' (Kd.V_mono (ok' := (fun k_ => some k_ ≠ (.slice Ao60 t213.length co60 : Value).ownBlock ∧ some k_ ≠ (v220 : Value).ownBlock)) (HO_7.out) (fun k_ hk => ⟨hk.1.2, hk.2⟩))).2.1 (Kd.V_F (Kd.V_mono (ok' := (fun k_ => some k_ ≠ (.slice Ao60 t213.length co60 : Value).ownBlock ∧ some k_ ≠ (v220 : Value).ownBlock)) (HO_7.out) (fun k_ hk => ⟨hk.1.2, hk.2⟩))))) (Reps.one (show Kd.FK (Kd.slice 9 Kd.string) _ _ t216 [.slice Ao62 t216.length co62] from (Kd.FK_slice_mk (Kd.V_reads' (Kd.V_mono (ok' := (fun k_ => some k_ ≠ (.slice Ao60 t213.length co60 : Value).ownBlock ∧ some k_ ≠ (v220 : Value).ownBlock)) (HO218.out) (fun k_ hk => ⟨hk.2, hk.1⟩))).2.1 (Kd.V_F (Kd.V_mono (ok' := (fun k_ => some k_ ≠ (.slice Ao60 t213.length co60 : Value).ownBlock ∧ some k_ ≠ (v220 : Value).ownBlock)) (HO218.out) (fun k_ hk => ⟨hk.2, hk.1⟩))))) (Reps.none _ _)))); intro v223 w63 ho64 hb hg_ hnew_; clear hg_ hnew_; (first | rw [← Ny222.out] at ho64 | (simp only [Int.reduceToNat] at ho64; rw [← Ny222.out] at ho64)); have n0_ := Aside0.mk (Kd.V_elder' (by (with_reducible repeat (first | apply Kd.V_alloc | apply Kd.V_drewN | apply Kd.V_drew)); exact HO_7.out) (Kd.N_base ho64) hb); have n1_ := Aside0.mk (Kd.R_below (by (with_reducible repeat (first | apply Kd.R_alloc | apply Kd.R_drewN | apply Kd.R_drew)); exact HO215.out) hb); have n2_ := Aside0.mk (Kd.V_elder' (by (with_reducible repeat (first | apply Kd.V_alloc | apply Kd.V_drewN | apply Kd.V_drew)); exact HO218.out) (Kd.N_base ho64) hb); have n3_ := Aside0.mk (Kd.R_below (by (with_reducible repeat (first | apply Kd.R_alloc | apply Kd.R_drewN | apply Kd.R_drew)); exact HO221.out) hb); have n4_ := Aside0.mk (Kd.N_lower ho64 (below_size (by repeat (first | (with_reducible first | exact HB.out | apply below_alloc | apply pw_below_drewN | apply below_drew1) | exact HB.out)))); have n5_ := Aside0.mk (below_step (by repeat (first | (with_reducible first | exact HB.out | apply below_alloc | apply pw_below_drewN | apply below_drew1) | exact HB.out)) hb); clear HO_7; clear HO215; clear HO218; clear HO221; clear HB; have HO_7 := n0_; have HO215 := n1_; have HO218 := n2_; have HO221 := n3_; have HO224 := n4_; have HB := n5_; clear n0_ n1_ n2_ n3_ n4_ n5_; clear hb ho64; obtain ⟨Ao65, co65, eo65⟩ := Kd.N_slice HO224.out; subst eo65) | (go_at_call 10; (with_reducible refine (dict_Merge.calls k4 _ _ y222 t225 t228 _ ?side1 ?side2 A57.out).mono ?_); (case side1 => repeat (first | exact (Kd.N_reads' HO224.out).2.2 | (with_reducible refine Kd.C_alloc ?_ _) | (with_reducible refine Kd.C_drewN ?_ _) | (with_reducible refine Kd.C_drew ?_))); (case side2 => exact (Kd.N_reads' HO224.out).2.1); rintro e w66 ⟨v226, v229, rfl, ho0, ho1, hb⟩; (try replace ho1 := Kd.S_N ho1); have n0_ := Aside0.mk (Kd.V_elder' (by (with_reducible repeat (first | apply Kd.V_alloc | apply Kd.V_drewN | apply Kd.V_drew)); exact HO_7.out) (Kd.N_base ho1) hb); have n1_ := Aside0.mk (Kd.R_below (by (with_reducible repeat (first | apply Kd.R_alloc | apply Kd.R_drewN | apply Kd.R_drew)); exact HO215.out) hb); have n2_ := Aside0.mk (Kd.V_elder' (by (with_reducible repeat (first | apply Kd.V_alloc | apply Kd.V_drewN | apply Kd.V_drew)); exact HO218.out) (Kd.N_base ho1) hb); have n3_ := Aside0.mk (Kd.R_below (by (with_reducible repeat (first | apply Kd.R_alloc | apply Kd.R_drewN | apply Kd.R_drew)); exact HO221.out) hb); have n4_ := Aside0.mk (Kd.N_elder' (by (with_reducible repeat (first | apply Kd.N_alloc | apply Kd.N_drewN | apply Kd.N_drew)); exact HO224.out) (Kd.N_base ho1) hb); have n5_ := Aside0.mk (Kd.V_lower (Kd.V_mono (ok' := fun k_ => some k_ ≠ (v229 : Value).ownBlock ∧ some k_ ≠ (.slice Ao60 t213.length co60 : Value).ownBlock ∧ some k_ ≠ (v220 : Value).ownBlock ∧ some k_ ≠ (.slice Ao65 y222.length co65 : Value).ownBlock) ho0 (fun k_ hk_ => ⟨hk_.2, (Kd.fresh' (Kd.R_lt (by (with_reducible repeat (first | apply Kd.R_alloc | apply Kd.R_drewN | apply Kd.R_drew)); exact HO215.out)) k_ hk_.1), (Kd.fresh' (Kd.R_lt (by (with_reducible repeat (first | apply Kd.R_alloc | apply Kd.R_drewN | apply Kd.R_drew)); exact HO221.out)) k_ hk_.1), (Kd.fresh' (Kd.N_lt (by (with_reducible repeat (first | apply Kd.N_alloc | apply Kd.N_drewN | apply Kd.N_drew)); exact HO224.out)) k_ hk_.1)⟩)) (below_size (by repeat (first | (with_reducible first | exact HB.out | apply below_alloc | apply pw_below_drewN | apply below_drew1) | exact HB.out)))); have n6_ := Aside0.mk (Kd.N_lower (Kd.N_mono (ok' := fun k_ => some k_ ≠ (.slice Ao60 t213.length co60 : Value).ownBlock ∧ some k_ ≠ (v220 : Value).ownBlock ∧ some k_ ≠ (.slice Ao65 y222.length co65 : Value).ownBlock) ho1 (fun k_ hk_ => ⟨(Kd.fresh' (Kd.R_lt (by (with_reducible repeat (first | apply Kd.R_alloc | apply Kd.R_drewN | apply Kd.R_drew)); exact HO215.out)) k_ hk_), (Kd.fresh' (Kd.R_lt (by (with_reducible repeat (first | apply Kd.R_alloc | apply Kd.R_drewN | apply Kd.R_drew)); exact HO221.out)) k_ hk_), (Kd.fresh' (Kd.N_lt (by (with_reducible repeat (first | apply Kd.N_alloc | apply Kd.N_drewN | apply Kd.N_drew)); exact HO224.out)) k_ hk_)⟩)) (below_size (by repeat (first | (with_reducible first | exact HB.out | apply below_alloc | apply pw_below_drewN | apply below_drew1) | exact HB.out)))); have n7_ := Aside0.mk (below_step (by repeat (first | (with_reducible first | exact HB.out | apply below_alloc | apply pw_below_drewN | apply below_drew1) | exact HB.out)) hb); clear HO_7; clear HO215; clear HO218; clear HO221; clear HO224; clear HB; have HO_7 := n0_; have HO215 := n1_; have HO218 := n2_; have HO221 := n3_; have HO224 := n4_; have HO227 := n5_; have HO230 := n6_; have HB := n7_; clear n0_ n1_ n2_ n3_ n4_ n5_ n6_ n7_; (try clear hb); (try clear hb2); (try clear hk); (try clear hi); (try clear ho0); (try clear ho1)))
                          repeat (go_quiet (first | (go_at_call 9; (with_reducible refine (columbariumlaw7_few.calls k4 _ _ l1 t213 _ ?side1 ?side2 A55.out).mono ?_); (case side1 => repeat (first | exact (Kd.C_below HR1.out HB.out) | (with_reducible refine Kd.C_alloc ?_ _) | (with_reducible refine Kd.C_drewN ?_ _) | (with_reducible refine Kd.C_drew ?_))); (case side2 => exact HC1.out); rintro e w59 ⟨v214, rfl, ho0, hb⟩; have n0_ := Aside0.mk (Kd.V_elder' (by (with_reducible repeat (first | apply Kd.V_alloc | apply Kd.V_drewN | apply Kd.V_drew)); exact HO_7.out) (Kd.R_base ho0) hb); have n1_ := Aside0.mk (Kd.R_lower ho0 (below_size (by repeat (first | (with_reducible first | exact HB.out | apply below_alloc | apply pw_below_drewN | apply below_drew1) | exact HB.out)))); have n2_ := Aside0.mk (below_step (by repeat (first | (with_reducible first | exact HB.out | apply below_alloc | apply pw_below_drewN | apply below_drew1) | exact HB.out)) hb); clear HO_7; clear HB; have HO_7 := n0_; have HO215 := n1_; have HB := n2_; clear n0_ n1_ n2_; (try clear hb); (try clear hb2); (try clear hk); (try clear hi); (try clear ho0); obtain ⟨Ao60, co60, eo60⟩ := Kd.R_slice HO215.out; subst eo60) | (go_at_call 8; (with_reducible refine (dict_Build.calls k4 _ _ t213 t216 t219 _ ?side1 ?side2 A56.out).mono ?_); (case side1 => repeat (first | exact (Kd.R_reads' HO215.out).2.2 | (with_reducible refine Kd.C_alloc ?_ _) | (with_reducible refine Kd.C_drewN ?_ _) | (with_reducible refine Kd.C_drew ?_))); (case side2 => exact (Kd.R_reads' HO215.out).2.1); rintro e w61 ⟨v217, v220, rfl, ho0, ho1, hb⟩; have n0_ := Aside0.mk (Kd.V_elder' (by (with_reducible repeat (first | apply Kd.V_alloc | apply Kd.V_drewN | apply Kd.V_drew)); exact HO_7.out) (Kd.R_base ho1) hb); have n1_ := Aside0.mk (Kd.R_below (by (with_reducible repeat (first | apply Kd.R_alloc | apply Kd.R_drewN | apply Kd.R_drew)); exact HO215.out) hb); have n2_ := Aside0.mk (Kd.V_lower (Kd.V_mono (ok' := fun k_ => some k_ ≠ (v220 : Value).ownBlock ∧ some k_ ≠ (.slice Ao60 t213.length co60 : Value).ownBlock) ho0 (fun k_ hk_ => ⟨hk_.2, (Kd.fresh' (Kd.R_lt (by (with_reducible repeat (first | apply Kd.R_alloc | apply Kd.R_drewN | apply Kd.R_drew)); exact HO215.out)) k_ hk_.1)⟩)) (below_size (by repeat (first | (with_reducible first | exact HB.out | apply below_alloc | apply pw_below_drewN | apply below_drew1) | exact HB.out)))); have n3_ := Aside0.mk (Kd.R_lower (Kd.R_mono (ok' := fun k_ => True) ho1 (fun _ hk_ => trivial)) (below_size (by repeat (first | (with_reducible first | exact HB.out | apply below_alloc | apply pw_below_drewN | apply below_drew1) | exact HB.out)))); have n4_ := Aside0.mk (below_step (by repeat (first | (with_reducible first | exact HB.out | apply below_alloc | apply pw_below_drewN | apply below_drew1) | exact HB.out)) hb); clear HO_7; clear HO215; clear HB; have HO_7 := n0_; have HO215 := n1_; have HO218 := n2_; have HO221 := n3_; have HB := n4_; clear n0_ n1_ n2_ n3_ n4_; (try clear hb); (try clear hb2); (try clear hk); (try clear hi); (try clear ho0); (try clear ho1); obtain ⟨Ao62, co62, eo62⟩ := Kd.V_slice HO218.out; subst eo62) | ((with_reducible refine gate_dst (N := 170) rfl ?_); (try (refine gate_guard (by rfl) ?_; dsimp only)); refine Kd.N_lit (Kd.slice 9 Kd.string) _ 22 ?hg (N' := 170) ?hd (xs := ([t193, t216] : List (List ByteArray))) (inner := [.slice Ao27 t193.length co27, .slice Ao62 t216.length co62]) (ok := (fun k_ => some k_ ≠ (.slice Ao60 t213.length co60 : Value).ownBlock ∧ some k_ ≠ (v220 : Value).ownBlock)) (okp := (fun k_ => some k_ ≠ (.slice Ao60 t213.length co60 : Value).ownBlock ∧ some k_ ≠ (v220 : Value).ownBlock)) ?hr ?hp (fun _ hk => hk) ((show ∀ k_, w61.heap.size ≤ k_ → (fun k_ => some k_ ≠ (.slice Ao60 t213.length co60 : Value).ownBlock ∧ some k_ ≠ (v220 : Value).ownBlock) k_ from fun k_ hk => ⟨Kd.fresh' (Kd.R_lt (by (with_reducible repeat (first | apply Kd.R_alloc | apply Kd.R_drewN | apply Kd.R_drew)); exact HO215.out)) k_ hk, Kd.fresh' (Kd.R_lt (by (with_reducible repeat (first | apply Kd.R_alloc | apply Kd.R_drewN | apply Kd.R_drew)); exact HO221.out)) k_ hk⟩) _ (Nat.le_refl _)) (Below.refl _ _) (Nat.le_refl _) (by simp) ?_; (case hd => rfl); (case hg => rfl); (case hr => first | (go_simp; done) | (go_simp; rfl)); (case hp => exact (Reps.one (show Kd.FK (Kd.slice 9 Kd.string) _ _ t193 [.slice Ao27 t193.length co27] from (Kd.FK_slice_mk (Kd.V_reads' (Kd.V_mono (ok' := (fun k_ => some k_ ≠ (.slice Ao60 t213.length co60 : Value).ownBlock ∧ some k_ ≠ (v220 : Value).ownBlock)) (HO_7.out) (fun k_ hk => ⟨hk.1.2, hk.2⟩))).2.1 (Kd.V_F (Kd.V_mono (ok' := (fun k_ => some k_ ≠ (.slice Ao60 t213.length co60 : Value).ownBlock ∧ some k_ ≠ (v220 : Value).ownBlock)) (HO_7.out) (fun k_ hk => ⟨hk.1.2, hk.2⟩))))) (Reps.one (show Kd.FK (Kd.slice 9 Kd.string) _ _ t216 [.slice Ao62 t216.length co62] from (Kd.FK_slice_mk (Kd.V_reads' (Kd.V_mono (ok' := (fun k_ => some k_ ≠ (.slice Ao60 t213.length co60 : Value).ownBlock ∧ some k_ ≠ (v220 : Value).ownBlock)) (HO218.out) (fun k_ hk => ⟨hk.2, hk.1⟩))).2.1 (Kd.V_F (Kd.V_mono (ok' := (fun k_ => some k_ ≠ (.slice Ao60 t213.length co60 : Value).ownBlock ∧ some k_ ≠ (v220 : Value).ownBlock)) (HO218.out) (fun k_ hk => ⟨hk.2, hk.1⟩))))) (Reps.none _ _)))); intro v223 w63 ho64 hb hg_ hnew_; clear hg_ hnew_; (first | rw [← Ny222.out] at ho64 | (simp only [Int.reduceToNat] at ho64; rw [← Ny222.out] at ho64)); have n0_ := Aside0.mk (Kd.V_elder' (by (with_reducible repeat (first | apply Kd.V_alloc | apply Kd.V_drewN | apply Kd.V_drew)); exact HO_7.out) (Kd.N_base ho64) hb); have n1_ := Aside0.mk (Kd.R_below (by (with_reducible repeat (first | apply Kd.R_alloc | apply Kd.R_drewN | apply Kd.R_drew)); exact HO215.out) hb); have n2_ := Aside0.mk (Kd.V_elder' (by (with_reducible repeat (first | apply Kd.V_alloc | apply Kd.V_drewN | apply Kd.V_drew)); exact HO218.out) (Kd.N_base ho64) hb); have n3_ := Aside0.mk (Kd.R_below (by (with_reducible repeat (first | apply Kd.R_alloc | apply Kd.R_drewN | apply Kd.R_drew)); exact HO221.out) hb); have n4_ := Aside0.mk (Kd.N_lower ho64 (below_size (by repeat (first | (with_reducible first | exact HB.out | apply below_alloc | apply pw_below_drewN | apply below_drew1) | exact HB.out)))); have n5_ := Aside0.mk (below_step (by repeat (first | (with_reducible first | exact HB.out | apply below_alloc | apply pw_below_drewN | apply below_drew1) | exact HB.out)) hb); clear HO_7; clear HO215; clear HO218; clear HO221; clear HB; have HO_7 := n0_; have HO215 := n1_; have HO218 := n2_; have HO221 := n3_; have HO224 := n4_; have HB := n5_; clear n0_ n1_ n2_ n3_ n4_ n5_; clear hb ho64; obtain ⟨Ao65, co65, eo65⟩ := Kd.N_slice HO224.out; subst eo65) | (go_at_call 10; (with_reducible refine (dict_Merge.calls k4 _ _ y222 t225 t228 _ ?side1 ?side2 A57.out).mono ?_); (case side1 => repeat (first | exact (Kd.N_reads' HO224.out).2.2 | (with_reducible refine Kd.C_alloc ?_ _) | (with_reducible refine Kd.C_drewN ?_ _) | (with_reducible refine Kd.C_drew ?_))); (case side2 => exact (Kd.N_reads' HO224.out).2.1); rintro e w66 ⟨v226, v229, rfl, ho0, ho1, hb⟩; (try replace ho1 := Kd.S_N ho1); have n0_ := Aside0.mk (Kd.V_elder' (by (with_reducible repeat (first | apply Kd.V_alloc | apply Kd.V_drewN | apply Kd.V_drew)); exact HO_7.out) (Kd.N_base ho1) hb); have n1_ := Aside0.mk (Kd.R_below (by (with_reducible repeat (first | apply Kd.R_alloc | apply Kd.R_drewN | apply Kd.R_drew)); exact HO215.out) hb); have n2_ := Aside0.mk (Kd.V_elder' (by (with_reducible repeat (first | apply Kd.V_alloc | apply Kd.V_drewN | apply Kd.V_drew)); exact HO218.out) (Kd.N_base ho1) hb); have n3_ := Aside0.mk (Kd.R_below (by (with_reducible repeat (first | apply Kd.R_alloc | apply Kd.R_drewN | apply Kd.R_drew)); exact HO221.out) hb); have n4_ := Aside0.mk (Kd.N_elder' (by (with_reducible repeat (first | apply Kd.N_alloc | apply Kd.N_drewN | apply Kd.N_drew)); exact HO224.out) (Kd.N_base ho1) hb); have n5_ := Aside0.mk (Kd.V_lower (Kd.V_mono (ok' := fun k_ => some k_ ≠ (v229 : Value).ownBlock ∧ some k_ ≠ (.slice Ao60 t213.length co60 : Value).ownBlock ∧ some k_ ≠ (v220 : Value).ownBlock ∧ some k_ ≠ (.slice Ao65 y222.length co65 : Value).ownBlock) ho0 (fun k_ hk_ => ⟨hk_.2, (Kd.fresh' (Kd.R_lt (by (with_reducible repeat (first | apply Kd.R_alloc | apply Kd.R_drewN | apply Kd.R_drew)); exact HO215.out)) k_ hk_.1), (Kd.fresh' (Kd.R_lt (by (with_reducible repeat (first | apply Kd.R_alloc | apply Kd.R_drewN | apply Kd.R_drew)); exact HO221.out)) k_ hk_.1), (Kd.fresh' (Kd.N_lt (by (with_reducible repeat (first | apply Kd.N_alloc | apply Kd.N_drewN | apply Kd.N_drew)); exact HO224.out)) k_ hk_.1)⟩)) (below_size (by repeat (first | (with_reducible first | exact HB.out | apply below_alloc | apply pw_below_drewN | apply below_drew1) | exact HB.out)))); have n6_ := Aside0.mk (Kd.N_lower (Kd.N_mono (ok' := fun k_ => some k_ ≠ (.slice Ao60 t213.length co60 : Value).ownBlock ∧ some k_ ≠ (v220 : Value).ownBlock ∧ some k_ ≠ (.slice Ao65 y222.length co65 : Value).ownBlock) ho1 (fun k_ hk_ => ⟨(Kd.fresh' (Kd.R_lt (by (with_reducible repeat (first | apply Kd.R_alloc | apply Kd.R_drewN | apply Kd.R_drew)); exact HO215.out)) k_ hk_), (Kd.fresh' (Kd.R_lt (by (with_reducible repeat (first | apply Kd.R_alloc | apply Kd.R_drewN | apply Kd.R_drew)); exact HO221.out)) k_ hk_), (Kd.fresh' (Kd.N_lt (by (with_reducible repeat (first | apply Kd.N_alloc | apply Kd.N_drewN | apply Kd.N_drew)); exact HO224.out)) k_ hk_)⟩)) (below_size (by repeat (first | (with_reducible first | exact HB.out | apply below_alloc | apply pw_below_drewN | apply below_drew1) | exact HB.out)))); have n7_ := Aside0.mk (below_step (by repeat (first | (with_reducible first | exact HB.out | apply below_alloc | apply pw_below_drewN | apply below_drew1) | exact HB.out)) hb); clear HO_7; clear HO215; clear HO218; clear HO221; clear HO224; clear HB; have HO_7 := n0_; have HO215 := n1_; have HO218 := n2_; have HO221 := n3_; have HO224 := n4_; have HO227 := n5_; have HO230 := n6_; have HB := n7_; clear n0_ n1_ n2_ n3_ n4_ n5_ n6_ n7_; (try clear hb); (try clear hb2); (try clear hk); (try clear hi); (try clear ho0); (try clear ho1))); go_upto_region 24 with (first | (go_at_call 9; (with_reducible refine (columbariumlaw7_few.calls k4 _ _ l1 t213 _ ?side1 ?side2 A55.out).mono ?_); (case side1 => repeat (first | exact (Kd.C_below HR1.out HB.out) | (with_reducible refine Kd.C_alloc ?_ _) | (with_reducible refine Kd.C_drewN ?_ _) | (with_reducible refine Kd.C_drew ?_))); (case side2 => exact HC1.out); rintro e w59 ⟨v214, rfl, ho0, hb⟩; have n0_ := Aside0.mk (Kd.V_elder' (by (with_reducible repeat (first | apply Kd.V_alloc | apply Kd.V_drewN | apply Kd.V_drew)); exact HO_7.out) (Kd.R_base ho0) hb); have n1_ := Aside0.mk (Kd.R_lower ho0 (below_size (by repeat (first | (with_reducible first | exact HB.out | apply below_alloc | apply pw_below_drewN | apply below_drew1) | exact HB.out)))); have n2_ := Aside0.mk (below_step (by repeat (first | (with_reducible first | exact HB.out | apply below_alloc | apply pw_below_drewN | apply below_drew1) | exact HB.out)) hb); clear HO_7; clear HB; have HO_7 := n0_; have HO215 := n1_; have HB := n2_; clear n0_ n1_ n2_; (try clear hb); (try clear hb2); (try clear hk); (try clear hi); (try clear ho0); obtain ⟨Ao60, co60, eo60⟩ := Kd.R_slice HO215.out; subst eo60) | (go_at_call 8; (with_reducible refine (dict_Build.calls k4 _ _ t213 t216 t219 _ ?side1 ?side2 A56.out).mono ?_); (case side1 => repeat (first | exact (Kd.R_reads' HO215.out).2.2 | (with_reducible refine Kd.C_alloc ?_ _) | (with_reducible refine Kd.C_drewN ?_ _) | (with_reducible refine Kd.C_drew ?_))); (case side2 => exact (Kd.R_reads' HO215.out).2.1); rintro e w61 ⟨v217, v220, rfl, ho0, ho1, hb⟩; have n0_ := Aside0.mk (Kd.V_elder' (by (with_reducible repeat (first | apply Kd.V_alloc | apply Kd.V_drewN | apply Kd.V_drew)); exact HO_7.out) (Kd.R_base ho1) hb); have n1_ := Aside0.mk (Kd.R_below (by (with_reducible repeat (first | apply Kd.R_alloc | apply Kd.R_drewN | apply Kd.R_drew)); exact HO215.out) hb); have n2_ := Aside0.mk (Kd.V_lower (Kd.V_mono (ok' := fun k_ => some k_ ≠ (v220 : Value).ownBlock ∧ some k_ ≠ (.slice Ao60 t213.length co60 : Value).ownBlock) ho0 (fun k_ hk_ => ⟨hk_.2, (Kd.fresh' (Kd.R_lt (by (with_reducible repeat (first | apply Kd.R_alloc | apply Kd.R_drewN | apply Kd.R_drew)); exact HO215.out)) k_ hk_.1)⟩)) (below_size (by repeat (first | (with_reducible first | exact HB.out | apply below_alloc | apply pw_below_drewN | apply below_drew1) | exact HB.out)))); have n3_ := Aside0.mk (Kd.R_lower (Kd.R_mono (ok' := fun k_ => True) ho1 (fun _ hk_ => trivial)) (below_size (by repeat (first | (with_reducible first | exact HB.out | apply below_alloc | apply pw_below_drewN | apply below_drew1) | exact HB.out)))); have n4_ := Aside0.mk (below_step (by repeat (first | (with_reducible first | exact HB.out | apply below_alloc | apply pw_below_drewN | apply below_drew1) | exact HB.out)) hb); clear HO_7; clear HO215; clear HB; have HO_7 := n0_; have HO215 := n1_; have HO218 := n2_; have HO221 := n3_; have HB := n4_; clear n0_ n1_ n2_ n3_ n4_; (try clear hb); (try clear hb2); (try clear hk); (try clear hi); (try clear ho0); (try clear ho1); obtain ⟨Ao62, co62, eo62⟩ := Kd.V_slice HO218.out; subst eo62) | ((with_reducible refine gate_dst (N := 170) rfl ?_); (try (refine gate_guard (by rfl) ?_; dsimp only)); refine Kd.N_lit (Kd.slice 9 Kd.string) _ 22 ?hg (N' := 170) ?hd (xs := ([t193, t216] : List (List ByteArray))) (inner := [.slice Ao27 t193.length co27, .slice Ao62 t216.length co62]) (ok := (fun k_ => some k_ ≠ (.slice Ao60 t213.length co60 : Value).ownBlock ∧ some k_ ≠ (v220 : Value).ownBlock)) (okp := (fun k_ => some k_ ≠ (.slice Ao60 t213.length co60 : Value).ownBlock ∧ some k_ ≠ (v220 : Value).ownBlock)) ?hr ?hp (fun _ hk => hk) ((show ∀ k_, w61.heap.size ≤ k_ → (fun k_ => some k_ ≠ (.slice Ao60 t213.length co60 : Value).ownBlock ∧ some k_ ≠ (v220 : Value).ownBlock) k_ from fun k_ hk => ⟨Kd.fresh' (Kd.R_lt (by (with_reducible repeat (first | apply Kd.R_alloc | apply Kd.R_drewN | apply Kd.R_drew)); exact HO215.out)) k_ hk, Kd.fresh' (Kd.R_lt (by (with_reducible repeat (first | apply Kd.R_alloc | apply Kd.R_drewN | apply Kd.R_drew)); exact HO221.out)) k_ hk⟩) _ (Nat.le_refl _)) (Below.refl _ _) (Nat.le_refl _) (by simp) ?_; (case hd => rfl); (case hg => rfl); (case hr => first | (go_simp; done) | (go_simp; rfl)); (case hp => exact (Reps.one (show Kd.FK (Kd.slice 9 Kd.string) _ _ t193 [.slice Ao27 t193.length co27] from (Kd.FK_slice_mk (Kd.V_reads' (Kd.V_mono (ok' := (fun k_ => some k_ ≠ (.slice Ao60 t213.length co60 : Value).ownBlock ∧ some k_ ≠ (v220 : Value).ownBlock)) (HO_7.out) (fun k_ hk => ⟨hk.1.2, hk.2⟩))).2.1 (Kd.V_F (Kd.V_mono (ok' := (fun k_ => some k_ ≠ (.slice Ao60 t213.length co60 : Value).ownBlock ∧ some k_ ≠ (v220 : Value).ownBlock)) (HO_7.out) (fun k_ hk => ⟨hk.1.2, hk.2⟩))))) (Reps.one (show Kd.FK (Kd.slice 9 Kd.string) _ _ t216 [.slice Ao62 t216.length co62] from (Kd.FK_slice_mk (Kd.V_reads' (Kd.V_mono (ok' := (fun k_ => some k_ ≠ (.slice Ao60 t213.length co60 : Value).ownBlock ∧ some k_ ≠ (v220 : Value).ownBlock)) (HO218.out) (fun k_ hk => ⟨hk.2, hk.1⟩))).2.1 (Kd.V_F (Kd.V_mono (ok' := (fun k_ => some k_ ≠ (.slice Ao60 t213.length co60 : Value).ownBlock ∧ some k_ ≠ (v220 : Value).ownBlock)) (HO218.out) (fun k_ hk => ⟨hk.2, hk.1⟩))))) (Reps.none _ _)))); intro v223 w63 ho64 hb hg_ hnew_; clear hg_ hnew_; (first | rw [← Ny222.out] at ho64 | (simp only [Int.reduceToNat] at ho64; rw [← Ny222.out] at ho64)); have n0_ := Aside0.mk (Kd.V_elder' (by (with_reducible repeat (first | apply Kd.V_alloc | apply Kd.V_drewN | apply Kd.V_drew)); exact HO_7.out) (Kd.N_base ho64) hb); have n1_ := Aside0.mk (Kd.R_below (by (with_reducible repeat (first | apply Kd.R_alloc | apply Kd.R_drewN | apply Kd.R_drew)); exact HO215.out) hb); have n2_ := Aside0.mk (Kd.V_elder' (by (with_reducible repeat (first | apply Kd.V_alloc | apply Kd.V_drewN | apply Kd.V_drew)); exact HO218.out) (Kd.N_base ho64) hb); have n3_ := Aside0.mk (Kd.R_below (by (with_reducible repeat (first | apply Kd.R_alloc | apply Kd.R_drewN | apply Kd.R_drew)); exact HO221.out) hb); have n4_ := Aside0.mk (Kd.N_lower ho64 (below_size (by repeat (first | (with_reducible first | exact HB.out | apply below_alloc | apply pw_below_drewN | apply below_drew1) | exact HB.out)))); have n5_ := Aside0.mk (below_step (by repeat (first | (with_reducible first | exact HB.out | apply below_alloc | apply pw_below_drewN | apply below_drew1) | exact HB.out)) hb); clear HO_7; clear HO215; clear HO218; clear HO221; clear HB; have HO_7 := n0_; have HO215 := n1_; have HO218 := n2_; have HO221 := n3_; have HO224 := n4_; have HB := n5_; clear n0_ n1_ n2_ n3_ n4_ n5_; clear hb ho64; obtain ⟨Ao65, co65, eo65⟩ := Kd.N_slice HO224.out; subst eo65) | (go_at_call 10; (with_reducible refine (dict_Merge.calls k4 _ _ y222 t225 t228 _ ?side1 ?side2 A57.out).mono ?_); (case side1 => repeat (first | exact (Kd.N_reads' HO224.out).2.2 | (with_reducible refine Kd.C_alloc ?_ _) | (with_reducible refine Kd.C_drewN ?_ _) | (with_reducible refine Kd.C_drew ?_))); (case side2 => exact (Kd.N_reads' HO224.out).2.1); rintro e w66 ⟨v226, v229, rfl, ho0, ho1, hb⟩; (try replace ho1 := Kd.S_N ho1); have n0_ := Aside0.mk (Kd.V_elder' (by (with_reducible repeat (first | apply Kd.V_alloc | apply Kd.V_drewN | apply Kd.V_drew)); exact HO_7.out) (Kd.N_base ho1) hb); have n2_ := Aside0.mk (Kd.V_elder' (by (with_reducible repeat (first | apply Kd.V_alloc | apply Kd.V_drewN | apply Kd.V_drew)); exact HO218.out) (Kd.N_base ho1) hb); have n5_ := Aside0.mk (Kd.V_lower (Kd.V_mono (ok' := fun k_ => some k_ ≠ (v229 : Value).ownBlock ∧ some k_ ≠ (.slice Ao60 t213.length co60 : Value).ownBlock ∧ some k_ ≠ (v220 : Value).ownBlock ∧ some k_ ≠ (.slice Ao65 y222.length co65 : Value).ownBlock) ho0 (fun k_ hk_ => ⟨hk_.2, (Kd.fresh' (Kd.R_lt (by (with_reducible repeat (first | apply Kd.R_alloc | apply Kd.R_drewN | apply Kd.R_drew)); exact HO215.out)) k_ hk_.1), (Kd.fresh' (Kd.R_lt (by (with_reducible repeat (first | apply Kd.R_alloc | apply Kd.R_drewN | apply Kd.R_drew)); exact HO221.out)) k_ hk_.1), (Kd.fresh' (Kd.N_lt (by (with_reducible repeat (first | apply Kd.N_alloc | apply Kd.N_drewN | apply Kd.N_drew)); exact HO224.out)) k_ hk_.1)⟩)) (below_size (by repeat (first | (with_reducible first | exact HB.out | apply below_alloc | apply pw_below_drewN | apply below_drew1) | exact HB.out)))); have n6_ := Aside0.mk (Kd.N_lower (Kd.N_mono (ok' := fun k_ => some k_ ≠ (.slice Ao60 t213.length co60 : Value).ownBlock ∧ some k_ ≠ (v220 : Value).ownBlock ∧ some k_ ≠ (.slice Ao65 y222.length co65 : Value).ownBlock) ho1 (fun k_ hk_ => ⟨(Kd.fresh' (Kd.R_lt (by (with_reducible repeat (first | apply Kd.R_alloc | apply Kd.R_drewN | apply Kd.R_drew)); exact HO215.out)) k_ hk_), (Kd.fresh' (Kd.R_lt (by (with_reducible repeat (first | apply Kd.R_alloc | apply Kd.R_drewN | apply Kd.R_drew)); exact HO221.out)) k_ hk_), (Kd.fresh' (Kd.N_lt (by (with_reducible repeat (first | apply Kd.N_alloc | apply Kd.N_drewN | apply Kd.N_drew)); exact HO224.out)) k_ hk_)⟩)) (below_size (by repeat (first | (with_reducible first | exact HB.out | apply below_alloc | apply pw_below_drewN | apply below_drew1) | exact HB.out)))); have n7_ := Aside0.mk (below_step (by repeat (first | (with_reducible first | exact HB.out | apply below_alloc | apply pw_below_drewN | apply below_drew1) | exact HB.out)) hb); clear HO_7; clear HO215; clear HO218; clear HO221; clear HO224; clear HB; have HO_7 := n0_; have HO218 := n2_; have HO227 := n5_; have HO230 := n6_; have HB := n7_; clear n0_ n2_ n5_ n6_ n7_; (try clear hb); (try clear hb2); (try clear hk); (try clear hi); (try clear ho0); (try clear ho1))))
                          (try simp only [Act.put, List.setIfInBounds_toArray, List.set_cons_zero, List.set_cons_succ])
                          go_cut [204] (fun v204 wc => ∃ (kq : Nat) (x204_57 : Bool), v204 = .bool x204_57 ∧ Aside0 (columbariumlaw7_DictRules.j5 kq t193 t216 t225 t228 x204_57 = some r) ∧ Aside0 (kq ≤ k4) ∧ Aside0 (Kd.V Kd.string 9 wc w.heap.size (fun k_ => some k_ ≠ (v229 : Value).ownBlock) (.slice Ao27 t193.length co27) t193) ∧ Aside0 (Kd.V Kd.string 9 wc w.heap.size (fun k_ => some k_ ≠ (v229 : Value).ownBlock) (.slice Ao62 t216.length co62) t216) ∧ Aside0 (Kd.V Kd.string 9 wc w.heap.size (fun k_ => some k_ ≠ (v229 : Value).ownBlock) v226 t225) ∧ Aside0 (Kd.N (Kd.slice 3 (Kd.int .i64)) 23 wc w.heap.size (fun _ => True) v229 t228) ∧ Aside0 (Below w.heap.size w wc))
                          case first =>
                            have H := HC58.out
                            clear HC58
                            by_cases c67 : (t228.length : Int) = 2
                            · rw [if_pos c67] at H
                              have c67b0 : ((t228.length : Int) == 2) = true := beq_iff_eq.mpr c67
                              have c67b1 : ((t228.length : Int) != 2) = false := bne_eq_false_iff_eq.mpr c67
                              clear c67
                              (first | rw [c67b0] | rw [c67b1] | (simp only [i64_w, i32_w]; rw [c67b0]) | skip)
                              by_cases c68 : 0 < (t228.length : Int)
                              · rw [if_pos c68] at H
                                have c68b0 : decide (0 < (t228.length : Int)) = true := decide_eq_true c68
                                have c68b1 : decide (0 < t228.length) = true := decide_eq_true (by omega)
                                clear c68
                                by_cases c69 : ((rd_L3 t228 0).length : Int) = (t193.length : Int)
                                · rw [if_pos c69] at H
                                  have c69b0 : (((rd_L3 t228 0).length : Int) == (t193.length : Int)) = true := beq_iff_eq.mpr c69
                                  have c69b1 : (((rd_L3 t228 0).length : Int) != (t193.length : Int)) = false := bne_eq_false_iff_eq.mpr c69
                                  have c69b2 : ((rd_L3 t228 0).length == t193.length) = true := by first | simpa using c69 | (simp at c69 ⊢; omega)
                                  clear c69
                                  by_cases c70 : 1 < (t228.length : Int)
                                  · rw [if_pos c70] at H
                                    have c70b0 : decide (1 < (t228.length : Int)) = true := decide_eq_true c70
                                    have c70b1 : decide (1 < t228.length) = true := decide_eq_true (by omega)
                                    clear c70
                                    by_cases c71 : ((rd_L3 t228 1).length : Int) = (t216.length : Int)
                                    · rw [if_pos c71] at H
                                      have c71b0 : (((rd_L3 t228 1).length : Int) == (t216.length : Int)) = true := beq_iff_eq.mpr c71
                                      have c71b1 : (((rd_L3 t228 1).length : Int) != (t216.length : Int)) = false := bne_eq_false_iff_eq.mpr c71
                                      have c71b2 : ((rd_L3 t228 1).length == t216.length) = true := by first | simpa using c71 | (simp at c71 ⊢; omega)
                                      clear c71
                                      as_aux_lemma =>
                                        have H' := Aside0.mk H
                                        clear H
                                        obtain ⟨Ao72, co72, eo72⟩ := Kd.N_slice HO230.out
                                        subst eo72
                                        have p231 : 0 ≤ (0 : Int) := (by omega)
                                        have q231 : 0 < (t228.length : Int) := of_decide_eq_true (by first | (with_reducible assumption) | assumption)
                                        obtain ⟨ad231, A231_0, c231_0, e231, hx231_0, hl231_0, hi231_0⟩ := at_L3 (Kd.N_reads' HO230.out).2.2 0 p231 q231
                                        cases e231
                                        obtain ⟨ce231, hce231, hMe231, hcc231⟩ := Kd.N_get HO230.out [] 0 p231 (by first | exact q231 | exact of_decide_eq_true (by first | (with_reducible assumption) | assumption) | (have e_ := (Kd.N_reads' HO230.out).1; omega))
                                        obtain ⟨ua231_0, uc231_0, rfl, ul231_0, ge231_0⟩ := Kd.FK_slice_open hMe231
                                        have hv231_0 := hcc231 0 _ rfl
                                        rw [Nat.add_zero, show ((Kd.slice 3 (Kd.int .i64))).sz = 1 from rfl, Nat.mul_one] at hv231_0
                                        replace hv231_0 := Option.some.inj (hv231_0.symm.trans hx231_0)
                                        injection hv231_0 with hva_ hvn_ hvc_
                                        rw [hva_] at ge231_0
                                        rw [hvc_] at ul231_0
                                        have HL231_0 := Aside0.mk (show Kd.V (Kd.int .i64) 3 _ w.heap.size _ _ (rd_L3 t228 0) from Kd.V_mk ul231_0 ge231_0)
                                        clear hva_ hvn_ hvc_ ge231_0 ul231_0
                                        clear hcc231 hce231
                                        have qi231 : (0 < t228.length) = True := eq_true (by omega)
                                        (try rw [show ((0 : Int)).toNat = 0 from rfl] at hx231_0)
                                        (try rw [Addr.add_zero'] at hx231_0)
                                        have HR231_0 := Aside0.mk hi231_0
                                        have HC231_0 := Aside0.mk hl231_0
                                        clear hi231_0 hl231_0
                                        replace p231 := eq_true p231
                                        replace q231 := eq_true q231
                                        have p232 : 0 ≤ (1 : Int) := (by omega)
                                        have q232 : 1 < (t228.length : Int) := of_decide_eq_true (by first | (with_reducible assumption) | assumption)
                                        obtain ⟨ad232, A232_0, c232_0, e232, hx232_0, hl232_0, hi232_0⟩ := at_L3 (Kd.N_reads' HO230.out).2.2 1 p232 q232
                                        obtain rfl : ad231 = ad232 := (by injection e232)
                                        obtain ⟨ce232, hce232, hMe232, hcc232⟩ := Kd.N_get HO230.out [] 1 p232 (by first | exact q232 | exact of_decide_eq_true (by first | (with_reducible assumption) | assumption) | (have e_ := (Kd.N_reads' HO230.out).1; omega))
                                        obtain ⟨ua232_0, uc232_0, rfl, ul232_0, ge232_0⟩ := Kd.FK_slice_open hMe232
                                        have hv232_0 := hcc232 0 _ rfl
                                        rw [Nat.add_zero, show ((Kd.slice 3 (Kd.int .i64))).sz = 1 from rfl, Nat.mul_one] at hv232_0
                                        replace hv232_0 := Option.some.inj (hv232_0.symm.trans hx232_0)
                                        injection hv232_0 with hva_ hvn_ hvc_
                                        rw [hva_] at ge232_0
                                        rw [hvc_] at ul232_0
                                        have HL232_0 := Aside0.mk (show Kd.V (Kd.int .i64) 3 _ w.heap.size _ _ (rd_L3 t228 1) from Kd.V_mk ul232_0 ge232_0)
                                        clear hva_ hvn_ hvc_ ge232_0 ul232_0
                                        clear hcc232 hce232
                                        (try simp only [show (1 : Int).toNat = 1 from rfl, Nat.reduceMul, Nat.reduceEqDiff, Go.Addr.add, ↓reduceIte] at hx232_0)
                                        have qi232 : (1 < t228.length) = True := eq_true (by omega)
                                        (try rw [show ((1 : Int)).toNat = 1 from rfl] at hx232_0)
                                        have HR232_0 := Aside0.mk hi232_0
                                        have HC232_0 := Aside0.mk hl232_0
                                        clear hi232_0 hl232_0
                                        replace p232 := eq_true p232
                                        replace q232 := eq_true q232
                                        obtain ⟨Ao73, co73, eo73⟩ := Kd.V_slice HO227.out
                                        subst eo73
                                        go_wp2
                                        repeat (go_quiet (fail); try go_wp2)
                                        go_meet
                                        case rel => exact ⟨_, (decide ((t225.length : Int) > (wrap64 ((t193.length : Int) + (t216.length : Int))))), (by first | rfl | (simp; done) | (simp [*]; done)), H', ⟨by have := HJ5.out; have := HK2.out; have := HJ25.out; have := HK4.out; first | omega | exact Nat.le_refl _⟩, ⟨by (with_reducible repeat (first | apply Kd.V_alloc | apply Kd.V_drewN | apply Kd.V_drew)); exact Kd.V_mono HO_7.out (fun _ hk => hk.2)⟩, ⟨by (with_reducible repeat (first | apply Kd.V_alloc | apply Kd.V_drewN | apply Kd.V_drew)); exact Kd.V_mono HO218.out (fun _ hk => hk.2)⟩, ⟨by (with_reducible repeat (first | apply Kd.V_alloc | apply Kd.V_drewN | apply Kd.V_drew)); exact Kd.V_mono HO227.out (fun _ hk => hk.1)⟩, ⟨by (with_reducible repeat (first | apply Kd.N_alloc | apply Kd.N_drewN | apply Kd.N_drew)); exact Kd.N_mono HO230.out (fun _ hk => trivial)⟩, ⟨by repeat (first | (with_reducible first | exact HB.out | apply below_alloc | apply pw_below_drewN | apply below_drew1) | exact HB.out)⟩⟩
                                    · rw [if_neg c71] at H
                                      have c71b0 : (((rd_L3 t228 1).length : Int) == (t216.length : Int)) = false := beq_eq_false_iff_ne.mpr c71
                                      have c71b1 : (((rd_L3 t228 1).length : Int) != (t216.length : Int)) = true := bne_iff_ne.mpr c71
                                      have c71b2 : ((rd_L3 t228 1).length == t216.length) = false := by first | simpa using c71 | (simp at c71 ⊢; omega)
                                      as_aux_lemma =>
                                        have H' := Aside0.mk H
                                        clear H
                                        obtain ⟨Ao74, co74, eo74⟩ := Kd.N_slice HO230.out
                                        subst eo74
                                        have p231 : 0 ≤ (0 : Int) := (by omega)
                                        have q231 : 0 < (t228.length : Int) := of_decide_eq_true (by first | (with_reducible assumption) | assumption)
                                        obtain ⟨ad231, A231_0, c231_0, e231, hx231_0, hl231_0, hi231_0⟩ := at_L3 (Kd.N_reads' HO230.out).2.2 0 p231 q231
                                        cases e231
                                        obtain ⟨ce231, hce231, hMe231, hcc231⟩ := Kd.N_get HO230.out [] 0 p231 (by first | exact q231 | exact of_decide_eq_true (by first | (with_reducible assumption) | assumption) | (have e_ := (Kd.N_reads' HO230.out).1; omega))
                                        obtain ⟨ua231_0, uc231_0, rfl, ul231_0, ge231_0⟩ := Kd.FK_slice_open hMe231
                                        have hv231_0 := hcc231 0 _ rfl
                                        rw [Nat.add_zero, show ((Kd.slice 3 (Kd.int .i64))).sz = 1 from rfl, Nat.mul_one] at hv231_0
                                        replace hv231_0 := Option.some.inj (hv231_0.symm.trans hx231_0)
                                        injection hv231_0 with hva_ hvn_ hvc_
                                        rw [hva_] at ge231_0
                                        rw [hvc_] at ul231_0
                                        have HL231_0 := Aside0.mk (show Kd.V (Kd.int .i64) 3 _ w.heap.size _ _ (rd_L3 t228 0) from Kd.V_mk ul231_0 ge231_0)
                                        clear hva_ hvn_ hvc_ ge231_0 ul231_0
                                        clear hcc231 hce231
                                        have qi231 : (0 < t228.length) = True := eq_true (by omega)
                                        (try rw [show ((0 : Int)).toNat = 0 from rfl] at hx231_0)
                                        (try rw [Addr.add_zero'] at hx231_0)
                                        have HR231_0 := Aside0.mk hi231_0
                                        have HC231_0 := Aside0.mk hl231_0
                                        clear hi231_0 hl231_0
                                        replace p231 := eq_true p231
                                        replace q231 := eq_true q231
                                        have p232 : 0 ≤ (1 : Int) := (by omega)
                                        have q232 : 1 < (t228.length : Int) := of_decide_eq_true (by first | (with_reducible assumption) | assumption)
                                        obtain ⟨ad232, A232_0, c232_0, e232, hx232_0, hl232_0, hi232_0⟩ := at_L3 (Kd.N_reads' HO230.out).2.2 1 p232 q232
                                        obtain rfl : ad231 = ad232 := (by injection e232)
                                        obtain ⟨ce232, hce232, hMe232, hcc232⟩ := Kd.N_get HO230.out [] 1 p232 (by first | exact q232 | exact of_decide_eq_true (by first | (with_reducible assumption) | assumption) | (have e_ := (Kd.N_reads' HO230.out).1; omega))
                                        obtain ⟨ua232_0, uc232_0, rfl, ul232_0, ge232_0⟩ := Kd.FK_slice_open hMe232
                                        have hv232_0 := hcc232 0 _ rfl
                                        rw [Nat.add_zero, show ((Kd.slice 3 (Kd.int .i64))).sz = 1 from rfl, Nat.mul_one] at hv232_0
                                        replace hv232_0 := Option.some.inj (hv232_0.symm.trans hx232_0)
                                        injection hv232_0 with hva_ hvn_ hvc_
                                        rw [hva_] at ge232_0
                                        rw [hvc_] at ul232_0
                                        have HL232_0 := Aside0.mk (show Kd.V (Kd.int .i64) 3 _ w.heap.size _ _ (rd_L3 t228 1) from Kd.V_mk ul232_0 ge232_0)
                                        clear hva_ hvn_ hvc_ ge232_0 ul232_0
                                        clear hcc232 hce232
                                        (try simp only [show (1 : Int).toNat = 1 from rfl, Nat.reduceMul, Nat.reduceEqDiff, Go.Addr.add, ↓reduceIte] at hx232_0)
                                        have qi232 : (1 < t228.length) = True := eq_true (by omega)
                                        (try rw [show ((1 : Int)).toNat = 1 from rfl] at hx232_0)
                                        have HR232_0 := Aside0.mk hi232_0
                                        have HC232_0 := Aside0.mk hl232_0
                                        clear hi232_0 hl232_0
                                        replace p232 := eq_true p232
                                        replace q232 := eq_true q232
                                        go_wp2
                                        repeat (go_quiet (fail); try go_wp2)
                                        go_meet
                                        case rel => exact ⟨_, (true), (by first | rfl | (simp; done) | (simp [*]; done)), H', ⟨by have := HJ5.out; have := HK2.out; have := HJ25.out; have := HK4.out; first | omega | exact Nat.le_refl _⟩, ⟨by (with_reducible repeat (first | apply Kd.V_alloc | apply Kd.V_drewN | apply Kd.V_drew)); exact Kd.V_mono HO_7.out (fun _ hk => hk.2)⟩, ⟨by (with_reducible repeat (first | apply Kd.V_alloc | apply Kd.V_drewN | apply Kd.V_drew)); exact Kd.V_mono HO218.out (fun _ hk => hk.2)⟩, ⟨by (with_reducible repeat (first | apply Kd.V_alloc | apply Kd.V_drewN | apply Kd.V_drew)); exact Kd.V_mono HO227.out (fun _ hk => hk.1)⟩, ⟨by (with_reducible repeat (first | apply Kd.N_alloc | apply Kd.N_drewN | apply Kd.N_drew)); exact Kd.N_mono HO230.out (fun _ hk => trivial)⟩, ⟨by repeat (first | (with_reducible first | exact HB.out | apply below_alloc | apply pw_below_drewN | apply below_drew1) | exact HB.out)⟩⟩
                                  · rw [if_neg c70] at H
                                    exact absurd H (by simp)
                                · rw [if_neg c69] at H
                                  have c69b0 : (((rd_L3 t228 0).length : Int) == (t193.length : Int)) = false := beq_eq_false_iff_ne.mpr c69
                                  have c69b1 : (((rd_L3 t228 0).length : Int) != (t193.length : Int)) = true := bne_iff_ne.mpr c69
                                  have c69b2 : ((rd_L3 t228 0).length == t193.length) = false := by first | simpa using c69 | (simp at c69 ⊢; omega)
                                  as_aux_lemma =>
                                    have H' := Aside0.mk H
                                    clear H
                                    obtain ⟨Ao75, co75, eo75⟩ := Kd.N_slice HO230.out
                                    subst eo75
                                    have p231 : 0 ≤ (0 : Int) := (by omega)
                                    have q231 : 0 < (t228.length : Int) := of_decide_eq_true (by first | (with_reducible assumption) | assumption)
                                    obtain ⟨ad231, A231_0, c231_0, e231, hx231_0, hl231_0, hi231_0⟩ := at_L3 (Kd.N_reads' HO230.out).2.2 0 p231 q231
                                    cases e231
                                    obtain ⟨ce231, hce231, hMe231, hcc231⟩ := Kd.N_get HO230.out [] 0 p231 (by first | exact q231 | exact of_decide_eq_true (by first | (with_reducible assumption) | assumption) | (have e_ := (Kd.N_reads' HO230.out).1; omega))
                                    obtain ⟨ua231_0, uc231_0, rfl, ul231_0, ge231_0⟩ := Kd.FK_slice_open hMe231
                                    have hv231_0 := hcc231 0 _ rfl
                                    rw [Nat.add_zero, show ((Kd.slice 3 (Kd.int .i64))).sz = 1 from rfl, Nat.mul_one] at hv231_0
                                    replace hv231_0 := Option.some.inj (hv231_0.symm.trans hx231_0)
                                    injection hv231_0 with hva_ hvn_ hvc_
                                    rw [hva_] at ge231_0
                                    rw [hvc_] at ul231_0
                                    have HL231_0 := Aside0.mk (show Kd.V (Kd.int .i64) 3 _ w.heap.size _ _ (rd_L3 t228 0) from Kd.V_mk ul231_0 ge231_0)
                                    clear hva_ hvn_ hvc_ ge231_0 ul231_0
                                    clear hcc231 hce231
                                    have qi231 : (0 < t228.length) = True := eq_true (by omega)
                                    (try rw [show ((0 : Int)).toNat = 0 from rfl] at hx231_0)
                                    (try rw [Addr.add_zero'] at hx231_0)
                                    have HR231_0 := Aside0.mk hi231_0
                                    have HC231_0 := Aside0.mk hl231_0
                                    clear hi231_0 hl231_0
                                    replace p231 := eq_true p231
                                    replace q231 := eq_true q231
                                    go_wp2
                                    repeat (go_quiet (fail); try go_wp2)
                                    go_meet
                                    case rel => exact ⟨_, (true), (by first | rfl | (simp; done) | (simp [*]; done)), H', ⟨by have := HJ5.out; have := HK2.out; have := HJ25.out; have := HK4.out; first | omega | exact Nat.le_refl _⟩, ⟨by (with_reducible repeat (first | apply Kd.V_alloc | apply Kd.V_drewN | apply Kd.V_drew)); exact Kd.V_mono HO_7.out (fun _ hk => hk.2)⟩, ⟨by (with_reducible repeat (first | apply Kd.V_alloc | apply Kd.V_drewN | apply Kd.V_drew)); exact Kd.V_mono HO218.out (fun _ hk => hk.2)⟩, ⟨by (with_reducible repeat (first | apply Kd.V_alloc | apply Kd.V_drewN | apply Kd.V_drew)); exact Kd.V_mono HO227.out (fun _ hk => hk.1)⟩, ⟨by (with_reducible repeat (first | apply Kd.N_alloc | apply Kd.N_drewN | apply Kd.N_drew)); exact Kd.N_mono HO230.out (fun _ hk => trivial)⟩, ⟨by repeat (first | (with_reducible first | exact HB.out | apply below_alloc | apply pw_below_drewN | apply below_drew1) | exact HB.out)⟩⟩
                              · rw [if_neg c68] at H
                                exact absurd H (by simp)
                            · rw [if_neg c67] at H
                              have c67b0 : ((t228.length : Int) == 2) = false := beq_eq_false_iff_ne.mpr c67
                              have c67b1 : ((t228.length : Int) != 2) = true := bne_iff_ne.mpr c67
                              (first | rw [c67b0] | rw [c67b1] | (simp only [i64_w, i32_w]; rw [c67b0]) | skip)
                              as_aux_lemma =>
                                have H' := Aside0.mk H
                                clear H
                                obtain ⟨Ao76, co76, eo76⟩ := Kd.N_slice HO230.out
                                subst eo76
                                go_wp2
                                repeat (go_quiet (fail); try go_wp2)
                                go_meet
                                case rel => exact ⟨_, (true), (by first | rfl | (simp; done) | (simp [*]; done)), H', ⟨by have := HJ5.out; have := HK2.out; have := HJ25.out; have := HK4.out; first | omega | exact Nat.le_refl _⟩, ⟨by (with_reducible repeat (first | apply Kd.V_alloc | apply Kd.V_drewN | apply Kd.V_drew)); exact Kd.V_mono HO_7.out (fun _ hk => hk.2)⟩, ⟨by (with_reducible repeat (first | apply Kd.V_alloc | apply Kd.V_drewN | apply Kd.V_drew)); exact Kd.V_mono HO218.out (fun _ hk => hk.2)⟩, ⟨by (with_reducible repeat (first | apply Kd.V_alloc | apply Kd.V_drewN | apply Kd.V_drew)); exact Kd.V_mono HO227.out (fun _ hk => hk.1)⟩, ⟨by (with_reducible repeat (first | apply Kd.N_alloc | apply Kd.N_drewN | apply Kd.N_drew)); exact Kd.N_mono HO230.out (fun _ hk => trivial)⟩, ⟨by repeat (first | (with_reducible first | exact HB.out | apply below_alloc | apply pw_below_drewN | apply below_drew1) | exact HB.out)⟩⟩
                          case rest =>
                            clear HC58
                            try clear c1
                            try clear p1
                            try clear q1
                            try clear hx1
                            try clear c2
                            try clear p2
                            try clear q2
                            try clear hx2
                            try clear qi2
                            try clear c3
                            try clear c4
                            try clear c5
                            try clear c6
                            try clear p6
                            try clear c7
                            try clear c10
                            try clear c10b0
                            try clear c10b1
                            try clear c10b2
                            try clear c14
                            try clear c15
                            try clear c15b0
                            try clear c16
                            try clear c16b0
                            try clear c17
                            try clear c17b0
                            try clear c18
                            try clear c18b0
                            try clear c19
                            try clear c19b0
                            try clear p19
                            try clear q19
                            try clear hx19
                            try clear c20
                            try clear c20b0
                            try clear p20
                            try clear q20
                            try clear hx20
                            try clear c21
                            try clear c21b0
                            try clear p21
                            try clear q21
                            try clear hx21
                            try clear c22
                            try clear c22b0
                            try clear c22b1
                            try clear c23
                            try clear p23
                            try clear q23
                            try clear hx23
                            try clear qi23
                            try clear c28
                            try clear c28b0
                            try clear c28b1
                            try clear c29
                            try clear c29b0
                            try clear c30
                            try clear c31
                            try clear c31b0
                            try clear c33
                            try clear c33b0
                            try clear c33b1
                            try clear c35
                            try clear c35b0
                            try clear c36
                            try clear c36b0
                            try clear c37
                            try clear c37b0
                            try clear c38
                            try clear c39
                            try clear c39b0
                            try clear c40
                            try clear c40b0
                            try clear c42
                            try clear c42b0
                            try clear c42b1
                            try clear c43
                            try clear c43b0
                            try clear c43b1
                            try clear c44
                            try clear c44b0
                            try clear c44b1
                            try clear c45
                            try clear c46
                            try clear c46b0
                            try clear c46b1
                            try clear c47
                            try clear c47b0
                            try clear c48
                            try clear c48b0
                            try clear c48b1
                            try clear c48b2
                            try clear c49
                            try clear c49b0
                            try clear c49b1
                            try clear c49b2
                            try clear c50
                            try clear c51
                            try clear c51b0
                            try clear c51b1
                            try clear c52
                            try clear c52b0
                            try clear c53
                            try clear c53b0
                            try clear c53b1
                            try clear c53b2
                            try clear c54
                            try clear c54b0
                            try clear c54b1
                            try clear c54b2
                            try clear p64
                            try clear c67
                            try clear c67b0
                            try clear c67b1
                            try clear c68
                            try clear c68b0
                            try clear c68b1
                            try clear c69
                            try clear c69b0
                            try clear c69b1
                            try clear c69b2
                            try clear c70
                            try clear c70b0
                            try clear c70b1
                            try clear c71
                            try clear c71b0
                            try clear c71b1
                            try clear c71b2
                            try clear hx199_0
                            try clear hx200_0
                            try clear hx201_0
                            try clear hx202_0
                            try clear hx203_0
                            try clear hx206_0
                            try clear hx207_0
                            try clear hx208_0
                            try clear hx211_0
                            try clear hx212_0
                            try clear hx231_0
                            try clear hx232_0
                            try clear p1
                            try clear p19
                            try clear p199
                            try clear p2
                            try clear p20
                            try clear p200
                            try clear p201
                            try clear p202
                            try clear p203
                            try clear p206
                            try clear p207
                            try clear p208
                            try clear p211
                            try clear p212
                            try clear p231
                            try clear p232
                            try clear p6
                            try clear q1
                            try clear q19
                            try clear q199
                            try clear q2
                            try clear q20
                            try clear q200
                            try clear q201
                            try clear q202
                            try clear q203
                            try clear q206
                            try clear q207
                            try clear q208
                            try clear q211
                            try clear q212
                            try clear q231
                            try clear q232
                            obtain ⟨kq, x204_57, rfl, HA, HJ57, HO_7, HO_16, HO_18, HO_19, HB⟩ := hcut
                            cases kq with
                            | zero => exact absurd HA.out (by simp [columbariumlaw7_DictRules.j5])
                            | succ kj57 =>
                              have H := HA.out
                              clear HA
                              simp only [columbariumlaw7_DictRules.j5] at H
                              by_cases c77 : x204_57 = true
                              · subst c77
                                have H1 : (some false) = some r := by rw [if_pos rfl] at H; exact H
                                clear H
                                have H := H1
                                clear H1
                                as_aux_lemma =>
                                  exact absurd ((Option.some.inj H).trans hrt_.out) (by decide)
                              · replace c77 := Bool.eq_false_iff.mpr c77
                                subst c77
                                have H1 : (columbariumlaw7_DictRules.l2 kj57 t193 t216 t225 t228 0) = some r := by rw [if_neg (show ¬ (false = true) by decide)] at H; exact H
                                clear H
                                have H := H1
                                clear H1
                                have H' := Aside0.mk H
                                clear H
                                go_wp2
                                repeat (go_quiet (fail); try go_wp2)
                                go_loopg [20] kj57 (fun kq v20 w' => ∃ (x20_6 : Int), v20 = .int .i64 x20_6 ∧ Aside0 (columbariumlaw7_DictRules.l2 kq t193 t216 t225 t228 x20_6 = some r) ∧ Aside0 (kq ≤ kj57) ∧ Aside0 (Kd.V Kd.string 9 w' w.heap.size (fun k_ => some k_ ≠ (v229 : Value).ownBlock) (.slice Ao27 t193.length co27) t193) ∧ Aside0 (Kd.V Kd.string 9 w' w.heap.size (fun k_ => some k_ ≠ (v229 : Value).ownBlock) (.slice Ao62 t216.length co62) t216) ∧ Aside0 (Kd.V Kd.string 9 w' w.heap.size (fun k_ => some k_ ≠ (v229 : Value).ownBlock) v226 t225) ∧ Aside0 (Kd.N (Kd.slice 3 (Kd.int .i64)) 23 w' w.heap.size (fun _ => True) v229 t228) ∧ Aside0 (Below w.heap.size w w'))
                                case atStart => exact ⟨(0), (by first | rfl | (simp; done) | (simp [*]; done)), H', ⟨Nat.le_refl _⟩, ⟨by (with_reducible repeat (first | apply Kd.V_alloc | apply Kd.V_drewN | apply Kd.V_drew)); exact HO_7.out⟩, ⟨by (with_reducible repeat (first | apply Kd.V_alloc | apply Kd.V_drewN | apply Kd.V_drew)); exact HO_16.out⟩, ⟨by (with_reducible repeat (first | apply Kd.V_alloc | apply Kd.V_drewN | apply Kd.V_drew)); exact HO_18.out⟩, ⟨by (with_reducible repeat (first | apply Kd.N_alloc | apply Kd.N_drewN | apply Kd.N_drew)); exact HO_19.out⟩, ⟨by repeat (first | (with_reducible first | exact HB.out | apply below_alloc | apply pw_below_drewN | apply below_drew1) | exact HB.out)⟩⟩
                                case round =>
                                  clear H'
                                  try clear c1
                                  try clear p1
                                  try clear q1
                                  try clear hx1
                                  try clear c2
                                  try clear p2
                                  try clear q2
                                  try clear hx2
                                  try clear qi2
                                  try clear c3
                                  try clear c4
                                  try clear c5
                                  try clear c6
                                  try clear p6
                                  try clear c7
                                  try clear c10
                                  try clear c10b0
                                  try clear c10b1
                                  try clear c10b2
                                  try clear c14
                                  try clear c15
                                  try clear c15b0
                                  try clear c16
                                  try clear c16b0
                                  try clear c17
                                  try clear c17b0
                                  try clear c18
                                  try clear c18b0
                                  try clear c19
                                  try clear c19b0
                                  try clear p19
                                  try clear q19
                                  try clear hx19
                                  try clear c20
                                  try clear c20b0
                                  try clear p20
                                  try clear q20
                                  try clear hx20
                                  try clear c21
                                  try clear c21b0
                                  try clear p21
                                  try clear q21
                                  try clear hx21
                                  try clear c22
                                  try clear c22b0
                                  try clear c22b1
                                  try clear c23
                                  try clear p23
                                  try clear q23
                                  try clear hx23
                                  try clear qi23
                                  try clear c28
                                  try clear c28b0
                                  try clear c28b1
                                  try clear c29
                                  try clear c29b0
                                  try clear c30
                                  try clear c31
                                  try clear c31b0
                                  try clear c33
                                  try clear c33b0
                                  try clear c33b1
                                  try clear c35
                                  try clear c35b0
                                  try clear c36
                                  try clear c36b0
                                  try clear c37
                                  try clear c37b0
                                  try clear c38
                                  try clear c39
                                  try clear c39b0
                                  try clear c40
                                  try clear c40b0
                                  try clear c42
                                  try clear c42b0
                                  try clear c42b1
                                  try clear c43
                                  try clear c43b0
                                  try clear c43b1
                                  try clear c44
                                  try clear c44b0
                                  try clear c44b1
                                  try clear c45
                                  try clear c46
                                  try clear c46b0
                                  try clear c46b1
                                  try clear c47
                                  try clear c47b0
                                  try clear c48
                                  try clear c48b0
                                  try clear c48b1
                                  try clear c48b2
                                  try clear c49
                                  try clear c49b0
                                  try clear c49b1
                                  try clear c49b2
                                  try clear c50
                                  try clear c51
                                  try clear c51b0
                                  try clear c51b1
                                  try clear c52
                                  try clear c52b0
                                  try clear c53
                                  try clear c53b0
                                  try clear c53b1
                                  try clear c53b2
                                  try clear c54
                                  try clear c54b0
                                  try clear c54b1
                                  try clear c54b2
                                  try clear p64
                                  try clear c67
                                  try clear c67b0
                                  try clear c67b1
                                  try clear c68
                                  try clear c68b0
                                  try clear c68b1
                                  try clear c69
                                  try clear c69b0
                                  try clear c69b1
                                  try clear c69b2
                                  try clear c70
                                  try clear c70b0
                                  try clear c70b1
                                  try clear c71
                                  try clear c71b0
                                  try clear c71b1
                                  try clear c71b2
                                  try clear c77
                                  try clear hx199_0
                                  try clear hx200_0
                                  try clear hx201_0
                                  try clear hx202_0
                                  try clear hx203_0
                                  try clear hx206_0
                                  try clear hx207_0
                                  try clear hx208_0
                                  try clear hx211_0
                                  try clear hx212_0
                                  try clear hx231_0
                                  try clear hx232_0
                                  try clear p1
                                  try clear p19
                                  try clear p199
                                  try clear p2
                                  try clear p20
                                  try clear p200
                                  try clear p201
                                  try clear p202
                                  try clear p203
                                  try clear p206
                                  try clear p207
                                  try clear p208
                                  try clear p21
                                  try clear p211
                                  try clear p212
                                  try clear p23
                                  try clear p231
                                  try clear p232
                                  try clear p6
                                  try clear p64
                                  try clear q1
                                  try clear q19
                                  try clear q199
                                  try clear q2
                                  try clear q20
                                  try clear q200
                                  try clear q201
                                  try clear q202
                                  try clear q203
                                  try clear q206
                                  try clear q207
                                  try clear q208
                                  try clear q21
                                  try clear q211
                                  try clear q212
                                  try clear q23
                                  try clear q231
                                  try clear q232
                                  obtain ⟨x20_6, rfl, HA, HK6, HO_7, HO_16, HO_18, HO_19, HB⟩ := hrel
                                  cases gk with
                                  | zero => exact absurd HA.out (by simp [columbariumlaw7_DictRules.l2])
                                  | succ k6 =>
                                    have H := HA.out
                                    clear HA
                                    simp only [columbariumlaw7_DictRules.l2] at H
                                    by_cases c78 : x20_6 < (t193.length : Int)
                                    · rw [if_pos c78] at H
                                      have c78b0 : decide (x20_6 < (t193.length : Int)) = true := decide_eq_true c78
                                      clear c78
                                      by_cases c79 : 0 < (t228.length : Int)
                                      · rw [if_pos c79] at H
                                        have c79b0 : decide (0 < (t228.length : Int)) = true := decide_eq_true c79
                                        have c79b1 : decide (0 < t228.length) = true := decide_eq_true (by omega)
                                        clear c79
                                        by_cases c80 : 0 ≤ x20_6
                                        · rw [if_pos c80] at H
                                          have c80b0 : decide (0 ≤ x20_6) = true := decide_eq_true c80
                                          clear c80
                                          by_cases c81 : x20_6 < ((rd_L3 t228 0).length : Int)
                                          · rw [if_pos c81] at H
                                            have c81b0 : decide (x20_6 < ((rd_L3 t228 0).length : Int)) = true := decide_eq_true c81
                                            clear c81
                                            by_cases c82 : (rd (rd_L3 t228 0) x20_6) < 0
                                            · rw [if_pos c82] at H
                                              have c82b0 : decide ((rd (rd_L3 t228 0) x20_6) < 0) = true := decide_eq_true c82
                                              clear c82
                                              as_aux_lemma =>
                                                exact absurd ((Option.some.inj H).trans hrt_.out) (by decide)
                                            · rw [if_neg c82] at H
                                              have c82b0 : decide ((rd (rd_L3 t228 0) x20_6) < 0) = false := decide_eq_false c82
                                              clear c82
                                              by_cases c83 : (rd (rd_L3 t228 0) x20_6) ≥ (t225.length : Int)
                                              · rw [if_pos c83] at H
                                                have c83b0 : decide ((t225.length : Int) ≤ (rd (rd_L3 t228 0) x20_6)) = true := decide_eq_true c83
                                                clear c83
                                                as_aux_lemma =>
                                                  exact absurd ((Option.some.inj H).trans hrt_.out) (by decide)
                                              · rw [if_neg c83] at H
                                                have c83b0 : decide ((t225.length : Int) ≤ (rd (rd_L3 t228 0) x20_6)) = false := decide_eq_false c83
                                                clear c83
                                                by_cases c84 : 0 ≤ (rd (rd_L3 t228 0) x20_6)
                                                · rw [if_pos c84] at H
                                                  have c84b0 : decide (0 ≤ (rd (rd_L3 t228 0) x20_6)) = true := decide_eq_true c84
                                                  clear c84
                                                  by_cases c85 : (rd (rd_L3 t228 0) x20_6) < (t225.length : Int)
                                                  · rw [if_pos c85] at H
                                                    have c85b0 : decide ((rd (rd_L3 t228 0) x20_6) < (t225.length : Int)) = true := decide_eq_true c85
                                                    clear c85
                                                    by_cases c86 : (rdOf ByteArray.empty t225 (rd (rd_L3 t228 0) x20_6)).toList = (rdOf ByteArray.empty t193 x20_6).toList
                                                    · rw [if_pos c86] at H
                                                      have c86b0 : ((rdOf ByteArray.empty t225 (rd (rd_L3 t228 0) x20_6)).toList == (rdOf ByteArray.empty t193 x20_6).toList) = true := beq_iff_eq.mpr c86
                                                      have c86b1 : ((rdOf ByteArray.empty t225 (rd (rd_L3 t228 0) x20_6)).toList != (rdOf ByteArray.empty t193 x20_6).toList) = false := bne_eq_false_iff_eq.mpr c86
                                                      clear c86
                                                      as_aux_lemma =>
                                                        have H' := Aside0.mk H
                                                        clear H
                                                        obtain ⟨Ao87, co87, eo87⟩ := Kd.N_slice HO_19.out
                                                        subst eo87
                                                        have p233 : 0 ≤ (0 : Int) := (by omega)
                                                        have q233 : 0 < (t228.length : Int) := of_decide_eq_true (by first | (with_reducible assumption) | assumption)
                                                        obtain ⟨ad233, A233_0, c233_0, e233, hx233_0, hl233_0, hi233_0⟩ := at_L3 (Kd.N_reads' HO_19.out).2.2 0 p233 q233
                                                        cases e233
                                                        obtain ⟨ce233, hce233, hMe233, hcc233⟩ := Kd.N_get HO_19.out [] 0 p233 (by first | exact q233 | exact of_decide_eq_true (by first | (with_reducible assumption) | assumption) | (have e_ := (Kd.N_reads' HO_19.out).1; omega))
                                                        obtain ⟨ua233_0, uc233_0, rfl, ul233_0, ge233_0⟩ := Kd.FK_slice_open hMe233
                                                        have hv233_0 := hcc233 0 _ rfl
                                                        rw [Nat.add_zero, show ((Kd.slice 3 (Kd.int .i64))).sz = 1 from rfl, Nat.mul_one] at hv233_0
                                                        replace hv233_0 := Option.some.inj (hv233_0.symm.trans hx233_0)
                                                        injection hv233_0 with hva_ hvn_ hvc_
                                                        rw [hva_] at ge233_0
                                                        rw [hvc_] at ul233_0
                                                        have HL233_0 := Aside0.mk (show Kd.V (Kd.int .i64) 3 _ w.heap.size _ _ (rd_L3 t228 0) from Kd.V_mk ul233_0 ge233_0)
                                                        clear hva_ hvn_ hvc_ ge233_0 ul233_0
                                                        clear hcc233 hce233
                                                        have qi233 : (0 < t228.length) = True := eq_true (by omega)
                                                        (try rw [show ((0 : Int)).toNat = 0 from rfl] at hx233_0)
                                                        (try rw [Addr.add_zero'] at hx233_0)
                                                        have HR233_0 := Aside0.mk hi233_0
                                                        have HC233_0 := Aside0.mk hl233_0
                                                        clear hi233_0 hl233_0
                                                        replace p233 := eq_true p233
                                                        replace q233 := eq_true q233
                                                        have p234 : 0 ≤ (x20_6 : Int) := of_decide_eq_true (by first | (with_reducible assumption) | assumption)
                                                        have q234 : x20_6 < ((rd_L3 t228 0).length : Int) := of_decide_eq_true (by first | (with_reducible assumption) | assumption)
                                                        obtain ⟨ad234, e234, hx234_0⟩ := Kd.at_int (by repeat (first | (with_reducible exact HR233_0.out) | (with_reducible refine Kd.C_alloc ?_ _) | (with_reducible refine Kd.C_drewN ?_ _) | (with_reducible refine Kd.C_drew ?_) | exact HR233_0.out)) x20_6 p234 q234
                                                        cases e234
                                                        replace p234 := eq_true p234
                                                        replace q234 := eq_true q234
                                                        have p235 : 0 ≤ (0 : Int) := (by omega)
                                                        have q235 : 0 < (t228.length : Int) := of_decide_eq_true (by first | (with_reducible assumption) | assumption)
                                                        obtain ⟨ad235, A235_0, c235_0, e235, hx235_0, hl235_0, hi235_0⟩ := at_L3 (Kd.N_reads' HO_19.out).2.2 0 p235 q235
                                                        obtain rfl : ad233 = ad235 := (by injection e235)
                                                        obtain ⟨ce235, hce235, hMe235, hcc235⟩ := Kd.N_get HO_19.out [] 0 p235 (by first | exact q235 | exact of_decide_eq_true (by first | (with_reducible assumption) | assumption) | (have e_ := (Kd.N_reads' HO_19.out).1; omega))
                                                        obtain ⟨ua235_0, uc235_0, rfl, ul235_0, ge235_0⟩ := Kd.FK_slice_open hMe235
                                                        have hv235_0 := hcc235 0 _ rfl
                                                        rw [Nat.add_zero, show ((Kd.slice 3 (Kd.int .i64))).sz = 1 from rfl, Nat.mul_one] at hv235_0
                                                        replace hv235_0 := Option.some.inj (hv235_0.symm.trans hx235_0)
                                                        injection hv235_0 with hva_ hvn_ hvc_
                                                        rw [hva_] at ge235_0
                                                        rw [hvc_] at ul235_0
                                                        have HL235_0 := Aside0.mk (show Kd.V (Kd.int .i64) 3 _ w.heap.size _ _ (rd_L3 t228 0) from Kd.V_mk ul235_0 ge235_0)
                                                        clear hva_ hvn_ hvc_ ge235_0 ul235_0
                                                        clear hcc235 hce235
                                                        have qi235 : (0 < t228.length) = True := eq_true (by omega)
                                                        (try rw [show ((0 : Int)).toNat = 0 from rfl] at hx235_0)
                                                        (try rw [Addr.add_zero'] at hx235_0)
                                                        have HR235_0 := Aside0.mk hi235_0
                                                        have HC235_0 := Aside0.mk hl235_0
                                                        clear hi235_0 hl235_0
                                                        replace p235 := eq_true p235
                                                        replace q235 := eq_true q235
                                                        have ea_ := Option.some.inj (hx233_0.symm.trans hx235_0)
                                                        injection ea_ with ea_ en_ ec_
                                                        subst ea_
                                                        subst ec_
                                                        clear en_
                                                        have p236 : 0 ≤ (x20_6 : Int) := of_decide_eq_true (by first | (with_reducible assumption) | assumption)
                                                        have q236 : x20_6 < ((rd_L3 t228 0).length : Int) := of_decide_eq_true (by first | (with_reducible assumption) | assumption)
                                                        obtain ⟨ad236, e236, hx236_0⟩ := Kd.at_int (by repeat (first | (with_reducible exact HR235_0.out) | (with_reducible refine Kd.C_alloc ?_ _) | (with_reducible refine Kd.C_drewN ?_ _) | (with_reducible refine Kd.C_drew ?_) | exact HR235_0.out)) x20_6 p236 q236
                                                        cases e236
                                                        replace p236 := eq_true p236
                                                        replace q236 := eq_true q236
                                                        obtain ⟨Ao88, co88, eo88⟩ := Kd.V_slice HO_18.out
                                                        subst eo88
                                                        have p237 : 0 ≤ (0 : Int) := (by omega)
                                                        have q237 : 0 < (t228.length : Int) := of_decide_eq_true (by first | (with_reducible assumption) | assumption)
                                                        obtain ⟨ad237, A237_0, c237_0, e237, hx237_0, hl237_0, hi237_0⟩ := at_L3 (Kd.N_reads' HO_19.out).2.2 0 p237 q237
                                                        obtain rfl : ad233 = ad237 := (by injection e237)
                                                        obtain ⟨ce237, hce237, hMe237, hcc237⟩ := Kd.N_get HO_19.out [] 0 p237 (by first | exact q237 | exact of_decide_eq_true (by first | (with_reducible assumption) | assumption) | (have e_ := (Kd.N_reads' HO_19.out).1; omega))
                                                        obtain ⟨ua237_0, uc237_0, rfl, ul237_0, ge237_0⟩ := Kd.FK_slice_open hMe237
                                                        have hv237_0 := hcc237 0 _ rfl
                                                        rw [Nat.add_zero, show ((Kd.slice 3 (Kd.int .i64))).sz = 1 from rfl, Nat.mul_one] at hv237_0
                                                        replace hv237_0 := Option.some.inj (hv237_0.symm.trans hx237_0)
                                                        injection hv237_0 with hva_ hvn_ hvc_
                                                        rw [hva_] at ge237_0
                                                        rw [hvc_] at ul237_0
                                                        have HL237_0 := Aside0.mk (show Kd.V (Kd.int .i64) 3 _ w.heap.size _ _ (rd_L3 t228 0) from Kd.V_mk ul237_0 ge237_0)
                                                        clear hva_ hvn_ hvc_ ge237_0 ul237_0
                                                        clear hcc237 hce237
                                                        have qi237 : (0 < t228.length) = True := eq_true (by omega)
                                                        (try rw [show ((0 : Int)).toNat = 0 from rfl] at hx237_0)
                                                        (try rw [Addr.add_zero'] at hx237_0)
                                                        have HR237_0 := Aside0.mk hi237_0
                                                        have HC237_0 := Aside0.mk hl237_0
                                                        clear hi237_0 hl237_0
                                                        replace p237 := eq_true p237
                                                        replace q237 := eq_true q237
                                                        have ea_ := Option.some.inj (hx233_0.symm.trans hx237_0)
                                                        injection ea_ with ea_ en_ ec_
                                                        subst ea_
                                                        subst ec_
                                                        clear en_
                                                        have p238 : 0 ≤ (x20_6 : Int) := of_decide_eq_true (by first | (with_reducible assumption) | assumption)
                                                        have q238 : x20_6 < ((rd_L3 t228 0).length : Int) := of_decide_eq_true (by first | (with_reducible assumption) | assumption)
                                                        obtain ⟨ad238, e238, hx238_0⟩ := Kd.at_int (by repeat (first | (with_reducible exact HR237_0.out) | (with_reducible refine Kd.C_alloc ?_ _) | (with_reducible refine Kd.C_drewN ?_ _) | (with_reducible refine Kd.C_drew ?_) | exact HR237_0.out)) x20_6 p238 q238
                                                        cases e238
                                                        replace p238 := eq_true p238
                                                        replace q238 := eq_true q238
                                                        have p239 : 0 ≤ ((rd (rd_L3 t228 0) x20_6) : Int) := of_decide_eq_true (by first | (with_reducible assumption) | assumption)
                                                        have q239 : (rd (rd_L3 t228 0) x20_6) < (t225.length : Int) := of_decide_eq_true (by first | (with_reducible assumption) | assumption)
                                                        obtain ⟨ad239, e239, hx239_0⟩ := Kd.at_string (Kd.V_reads' HO_18.out).2.2 (rd (rd_L3 t228 0) x20_6) p239 q239
                                                        cases e239
                                                        replace p239 := eq_true p239
                                                        replace q239 := eq_true q239
                                                        have p240 : 0 ≤ (x20_6 : Int) := of_decide_eq_true (by first | (with_reducible assumption) | assumption)
                                                        have q240 : x20_6 < (t193.length : Int) := of_decide_eq_true (by first | (with_reducible assumption) | assumption)
                                                        obtain ⟨ad240, e240, hx240_0⟩ := Kd.at_string (Kd.V_reads' HO_7.out).2.2 x20_6 p240 q240
                                                        cases e240
                                                        replace p240 := eq_true p240
                                                        replace q240 := eq_true q240
                                                        go_wp2
                                                        repeat (go_quiet (fail); try go_wp2)
                                                        go_roundg k6
                                                        case measure => have := HJ5.out; have := HK2.out; have := HJ25.out; have := HK4.out; have := HJ57.out; have := HK6.out; omega
                                                        case rel => exact ⟨(wrap64 (x20_6 + 1)), (by first | rfl | (simp; done) | (simp [*]; done)), H', ⟨by have := HJ5.out; have := HK2.out; have := HJ25.out; have := HK4.out; have := HJ57.out; have := HK6.out; omega⟩, ⟨by (with_reducible repeat (first | apply Kd.V_alloc | apply Kd.V_drewN | apply Kd.V_drew)); exact HO_7.out⟩, ⟨by (with_reducible repeat (first | apply Kd.V_alloc | apply Kd.V_drewN | apply Kd.V_drew)); exact HO_16.out⟩, ⟨by (with_reducible repeat (first | apply Kd.V_alloc | apply Kd.V_drewN | apply Kd.V_drew)); exact HO_18.out⟩, ⟨by (with_reducible repeat (first | apply Kd.N_alloc | apply Kd.N_drewN | apply Kd.N_drew)); exact HO_19.out⟩, ⟨by repeat (first | (with_reducible first | exact HB.out | apply below_alloc | apply pw_below_drewN | apply below_drew1) | exact HB.out)⟩⟩
                                                    · rw [if_neg c86] at H
                                                      have c86b0 : ((rdOf ByteArray.empty t225 (rd (rd_L3 t228 0) x20_6)).toList == (rdOf ByteArray.empty t193 x20_6).toList) = false := beq_eq_false_iff_ne.mpr c86
                                                      have c86b1 : ((rdOf ByteArray.empty t225 (rd (rd_L3 t228 0) x20_6)).toList != (rdOf ByteArray.empty t193 x20_6).toList) = true := bne_iff_ne.mpr c86
                                                      as_aux_lemma =>
                                                        exact absurd ((Option.some.inj H).trans hrt_.out) (by decide)
                                                  · rw [if_neg c85] at H
                                                    exact absurd H (by simp)
                                                · rw [if_neg c84] at H
                                                  exact absurd H (by simp)
                                          · rw [if_neg c81] at H
                                            exact absurd H (by simp)
                                        · rw [if_neg c80] at H
                                          exact absurd H (by simp)
                                      · rw [if_neg c79] at H
                                        exact absurd H (by simp)
                                    · rw [if_neg c78] at H
                                      have c78b0 : decide (x20_6 < (t193.length : Int)) = false := decide_eq_false c78
                                      clear c78
                                      have H' := Aside0.mk H
                                      clear H
                                      go_wp2
                                      repeat (go_quiet (fail); try go_wp2)
                                      go_loopg [21] k6 (fun kq v21 w' => ∃ (x21_7 : Int), v21 = .int .i64 x21_7 ∧ Aside0 (columbariumlaw7_DictRules.l3 kq t216 t225 t228 x21_7 = some r) ∧ Aside0 (kq ≤ k6) ∧ Aside0 (Kd.V Kd.string 9 w' w.heap.size (fun k_ => some k_ ≠ (v229 : Value).ownBlock) (.slice Ao62 t216.length co62) t216) ∧ Aside0 (Kd.V Kd.string 9 w' w.heap.size (fun k_ => some k_ ≠ (v229 : Value).ownBlock) v226 t225) ∧ Aside0 (Kd.N (Kd.slice 3 (Kd.int .i64)) 23 w' w.heap.size (fun _ => True) v229 t228) ∧ Aside0 (Below w.heap.size w w'))
                                      case atStart => exact ⟨(0), (by first | rfl | (simp; done) | (simp [*]; done)), H', ⟨Nat.le_refl _⟩, ⟨by (with_reducible repeat (first | apply Kd.V_alloc | apply Kd.V_drewN | apply Kd.V_drew)); exact HO_16.out⟩, ⟨by (with_reducible repeat (first | apply Kd.V_alloc | apply Kd.V_drewN | apply Kd.V_drew)); exact HO_18.out⟩, ⟨by (with_reducible repeat (first | apply Kd.N_alloc | apply Kd.N_drewN | apply Kd.N_drew)); exact HO_19.out⟩, ⟨by repeat (first | (with_reducible first | exact HB.out | apply below_alloc | apply pw_below_drewN | apply below_drew1) | exact HB.out)⟩⟩
                                      case round =>
                                        clear H'
                                        try clear c1
                                        try clear p1
                                        try clear q1
                                        try clear hx1
                                        try clear c2
                                        try clear p2
                                        try clear q2
                                        try clear hx2
                                        try clear qi2
                                        try clear c3
                                        try clear c4
                                        try clear c5
                                        try clear c6
                                        try clear p6
                                        try clear c7
                                        try clear c8
                                        try clear c10
                                        try clear c10b0
                                        try clear c10b1
                                        try clear c10b2
                                        try clear c14
                                        try clear c15
                                        try clear c15b0
                                        try clear c16
                                        try clear c16b0
                                        try clear c17
                                        try clear c17b0
                                        try clear c18
                                        try clear c18b0
                                        try clear c19
                                        try clear c19b0
                                        try clear p19
                                        try clear q19
                                        try clear hx19
                                        try clear c20
                                        try clear c20b0
                                        try clear p20
                                        try clear q20
                                        try clear hx20
                                        try clear c21
                                        try clear c21b0
                                        try clear p21
                                        try clear q21
                                        try clear hx21
                                        try clear c22
                                        try clear c22b0
                                        try clear c22b1
                                        try clear c23
                                        try clear p23
                                        try clear q23
                                        try clear hx23
                                        try clear qi23
                                        try clear p24
                                        try clear q24
                                        try clear hx24
                                        try clear c28
                                        try clear c28b0
                                        try clear c28b1
                                        try clear c29
                                        try clear c29b0
                                        try clear c30
                                        try clear c31
                                        try clear c31b0
                                        try clear c33
                                        try clear c33b0
                                        try clear c33b1
                                        try clear c35
                                        try clear c35b0
                                        try clear c36
                                        try clear c36b0
                                        try clear c37
                                        try clear c37b0
                                        try clear c38
                                        try clear c39
                                        try clear c39b0
                                        try clear c40
                                        try clear c40b0
                                        try clear c42
                                        try clear c42b0
                                        try clear c42b1
                                        try clear c43
                                        try clear c43b0
                                        try clear c43b1
                                        try clear c44
                                        try clear c44b0
                                        try clear c44b1
                                        try clear c45
                                        try clear c46
                                        try clear c46b0
                                        try clear c46b1
                                        try clear c47
                                        try clear c47b0
                                        try clear c48
                                        try clear c48b0
                                        try clear c48b1
                                        try clear c48b2
                                        try clear c49
                                        try clear c49b0
                                        try clear c49b1
                                        try clear c49b2
                                        try clear c50
                                        try clear c51
                                        try clear c51b0
                                        try clear c51b1
                                        try clear c52
                                        try clear c52b0
                                        try clear c53
                                        try clear c53b0
                                        try clear c53b1
                                        try clear c53b2
                                        try clear c54
                                        try clear c54b0
                                        try clear c54b1
                                        try clear c54b2
                                        try clear p64
                                        try clear c67
                                        try clear c67b0
                                        try clear c67b1
                                        try clear c68
                                        try clear c68b0
                                        try clear c68b1
                                        try clear c69
                                        try clear c69b0
                                        try clear c69b1
                                        try clear c69b2
                                        try clear c70
                                        try clear c70b0
                                        try clear c70b1
                                        try clear c71
                                        try clear c71b0
                                        try clear c71b1
                                        try clear c71b2
                                        try clear c77
                                        try clear c78
                                        try clear c78b0
                                        try clear c79
                                        try clear c79b0
                                        try clear c79b1
                                        try clear c80
                                        try clear c80b0
                                        try clear c81
                                        try clear c81b0
                                        try clear c82
                                        try clear c82b0
                                        try clear c83
                                        try clear c83b0
                                        try clear c84
                                        try clear c84b0
                                        try clear c85
                                        try clear c85b0
                                        try clear c86
                                        try clear c86b0
                                        try clear c86b1
                                        try clear hx199_0
                                        try clear hx200_0
                                        try clear hx201_0
                                        try clear hx202_0
                                        try clear hx203_0
                                        try clear hx206_0
                                        try clear hx207_0
                                        try clear hx208_0
                                        try clear hx211_0
                                        try clear hx212_0
                                        try clear hx231_0
                                        try clear hx232_0
                                        try clear hx233_0
                                        try clear hx234_0
                                        try clear hx235_0
                                        try clear hx236_0
                                        try clear hx237_0
                                        try clear hx238_0
                                        try clear hx239_0
                                        try clear hx240_0
                                        try clear p1
                                        try clear p19
                                        try clear p199
                                        try clear p2
                                        try clear p20
                                        try clear p200
                                        try clear p201
                                        try clear p202
                                        try clear p203
                                        try clear p206
                                        try clear p207
                                        try clear p208
                                        try clear p21
                                        try clear p211
                                        try clear p212
                                        try clear p23
                                        try clear p231
                                        try clear p232
                                        try clear p233
                                        try clear p234
                                        try clear p235
                                        try clear p236
                                        try clear p237
                                        try clear p238
                                        try clear p239
                                        try clear p240
                                        try clear p6
                                        try clear p64
                                        try clear q1
                                        try clear q19
                                        try clear q199
                                        try clear q2
                                        try clear q20
                                        try clear q200
                                        try clear q201
                                        try clear q202
                                        try clear q203
                                        try clear q206
                                        try clear q207
                                        try clear q208
                                        try clear q21
                                        try clear q211
                                        try clear q212
                                        try clear q23
                                        try clear q231
                                        try clear q232
                                        try clear q233
                                        try clear q234
                                        try clear q235
                                        try clear q236
                                        try clear q237
                                        try clear q238
                                        try clear q239
                                        try clear q240
                                        obtain ⟨x21_7, rfl, HA, HK7, HO_16, HO_18, HO_19, HB⟩ := hrel
                                        cases gk with
                                        | zero => exact absurd HA.out (by simp [columbariumlaw7_DictRules.l3])
                                        | succ k7 =>
                                          have H := HA.out
                                          clear HA
                                          simp only [columbariumlaw7_DictRules.l3] at H
                                          by_cases c89 : x21_7 < (t216.length : Int)
                                          · rw [if_pos c89] at H
                                            have c89b0 : decide (x21_7 < (t216.length : Int)) = true := decide_eq_true c89
                                            clear c89
                                            by_cases c90 : 1 < (t228.length : Int)
                                            · rw [if_pos c90] at H
                                              have c90b0 : decide (1 < (t228.length : Int)) = true := decide_eq_true c90
                                              have c90b1 : decide (1 < t228.length) = true := decide_eq_true (by omega)
                                              clear c90
                                              by_cases c91 : 0 ≤ x21_7
                                              · rw [if_pos c91] at H
                                                have c91b0 : decide (0 ≤ x21_7) = true := decide_eq_true c91
                                                clear c91
                                                by_cases c92 : x21_7 < ((rd_L3 t228 1).length : Int)
                                                · rw [if_pos c92] at H
                                                  have c92b0 : decide (x21_7 < ((rd_L3 t228 1).length : Int)) = true := decide_eq_true c92
                                                  clear c92
                                                  by_cases c93 : (rd (rd_L3 t228 1) x21_7) < 0
                                                  · rw [if_pos c93] at H
                                                    have c93b0 : decide ((rd (rd_L3 t228 1) x21_7) < 0) = true := decide_eq_true c93
                                                    clear c93
                                                    as_aux_lemma =>
                                                      exact absurd ((Option.some.inj H).trans hrt_.out) (by decide)
                                                  · rw [if_neg c93] at H
                                                    have c93b0 : decide ((rd (rd_L3 t228 1) x21_7) < 0) = false := decide_eq_false c93
                                                    clear c93
                                                    by_cases c94 : (rd (rd_L3 t228 1) x21_7) ≥ (t225.length : Int)
                                                    · rw [if_pos c94] at H
                                                      have c94b0 : decide ((t225.length : Int) ≤ (rd (rd_L3 t228 1) x21_7)) = true := decide_eq_true c94
                                                      clear c94
                                                      as_aux_lemma =>
                                                        exact absurd ((Option.some.inj H).trans hrt_.out) (by decide)
                                                    · rw [if_neg c94] at H
                                                      have c94b0 : decide ((t225.length : Int) ≤ (rd (rd_L3 t228 1) x21_7)) = false := decide_eq_false c94
                                                      clear c94
                                                      by_cases c95 : 0 ≤ (rd (rd_L3 t228 1) x21_7)
                                                      · rw [if_pos c95] at H
                                                        have c95b0 : decide (0 ≤ (rd (rd_L3 t228 1) x21_7)) = true := decide_eq_true c95
                                                        clear c95
                                                        by_cases c96 : (rd (rd_L3 t228 1) x21_7) < (t225.length : Int)
                                                        · rw [if_pos c96] at H
                                                          have c96b0 : decide ((rd (rd_L3 t228 1) x21_7) < (t225.length : Int)) = true := decide_eq_true c96
                                                          clear c96
                                                          by_cases c97 : (rdOf ByteArray.empty t225 (rd (rd_L3 t228 1) x21_7)).toList = (rdOf ByteArray.empty t216 x21_7).toList
                                                          · rw [if_pos c97] at H
                                                            have c97b0 : ((rdOf ByteArray.empty t225 (rd (rd_L3 t228 1) x21_7)).toList == (rdOf ByteArray.empty t216 x21_7).toList) = true := beq_iff_eq.mpr c97
                                                            have c97b1 : ((rdOf ByteArray.empty t225 (rd (rd_L3 t228 1) x21_7)).toList != (rdOf ByteArray.empty t216 x21_7).toList) = false := bne_eq_false_iff_eq.mpr c97
                                                            clear c97
                                                            as_aux_lemma =>
                                                              have H' := Aside0.mk H
                                                              clear H
                                                              obtain ⟨Ao98, co98, eo98⟩ := Kd.N_slice HO_19.out
                                                              subst eo98
                                                              have p241 : 0 ≤ (1 : Int) := (by omega)
                                                              have q241 : 1 < (t228.length : Int) := of_decide_eq_true (by first | (with_reducible assumption) | assumption)
                                                              obtain ⟨ad241, A241_0, c241_0, e241, hx241_0, hl241_0, hi241_0⟩ := at_L3 (Kd.N_reads' HO_19.out).2.2 1 p241 q241
                                                              cases e241
                                                              obtain ⟨ce241, hce241, hMe241, hcc241⟩ := Kd.N_get HO_19.out [] 1 p241 (by first | exact q241 | exact of_decide_eq_true (by first | (with_reducible assumption) | assumption) | (have e_ := (Kd.N_reads' HO_19.out).1; omega))
                                                              obtain ⟨ua241_0, uc241_0, rfl, ul241_0, ge241_0⟩ := Kd.FK_slice_open hMe241
                                                              have hv241_0 := hcc241 0 _ rfl
                                                              rw [Nat.add_zero, show ((Kd.slice 3 (Kd.int .i64))).sz = 1 from rfl, Nat.mul_one] at hv241_0
                                                              replace hv241_0 := Option.some.inj (hv241_0.symm.trans hx241_0)
                                                              injection hv241_0 with hva_ hvn_ hvc_
                                                              rw [hva_] at ge241_0
                                                              rw [hvc_] at ul241_0
                                                              have HL241_0 := Aside0.mk (show Kd.V (Kd.int .i64) 3 _ w.heap.size _ _ (rd_L3 t228 1) from Kd.V_mk ul241_0 ge241_0)
                                                              clear hva_ hvn_ hvc_ ge241_0 ul241_0
                                                              clear hcc241 hce241
                                                              (try simp only [show (1 : Int).toNat = 1 from rfl, Nat.reduceMul, Nat.reduceEqDiff, Go.Addr.add, ↓reduceIte] at hx241_0)
                                                              have qi241 : (1 < t228.length) = True := eq_true (by omega)
                                                              (try rw [show ((1 : Int)).toNat = 1 from rfl] at hx241_0)
                                                              have HR241_0 := Aside0.mk hi241_0
                                                              have HC241_0 := Aside0.mk hl241_0
                                                              clear hi241_0 hl241_0
                                                              replace p241 := eq_true p241
                                                              replace q241 := eq_true q241
                                                              have p242 : 0 ≤ (x21_7 : Int) := of_decide_eq_true (by first | (with_reducible assumption) | assumption)
                                                              have q242 : x21_7 < ((rd_L3 t228 1).length : Int) := of_decide_eq_true (by first | (with_reducible assumption) | assumption)
                                                              obtain ⟨ad242, e242, hx242_0⟩ := Kd.at_int (by repeat (first | (with_reducible exact HR241_0.out) | (with_reducible refine Kd.C_alloc ?_ _) | (with_reducible refine Kd.C_drewN ?_ _) | (with_reducible refine Kd.C_drew ?_) | exact HR241_0.out)) x21_7 p242 q242
                                                              cases e242
                                                              replace p242 := eq_true p242
                                                              replace q242 := eq_true q242
                                                              have p243 : 0 ≤ (1 : Int) := (by omega)
                                                              have q243 : 1 < (t228.length : Int) := of_decide_eq_true (by first | (with_reducible assumption) | assumption)
                                                              obtain ⟨ad243, A243_0, c243_0, e243, hx243_0, hl243_0, hi243_0⟩ := at_L3 (Kd.N_reads' HO_19.out).2.2 1 p243 q243
                                                              obtain rfl : ad241 = ad243 := (by injection e243)
                                                              obtain ⟨ce243, hce243, hMe243, hcc243⟩ := Kd.N_get HO_19.out [] 1 p243 (by first | exact q243 | exact of_decide_eq_true (by first | (with_reducible assumption) | assumption) | (have e_ := (Kd.N_reads' HO_19.out).1; omega))
                                                              obtain ⟨ua243_0, uc243_0, rfl, ul243_0, ge243_0⟩ := Kd.FK_slice_open hMe243
                                                              have hv243_0 := hcc243 0 _ rfl
                                                              rw [Nat.add_zero, show ((Kd.slice 3 (Kd.int .i64))).sz = 1 from rfl, Nat.mul_one] at hv243_0
                                                              replace hv243_0 := Option.some.inj (hv243_0.symm.trans hx243_0)
                                                              injection hv243_0 with hva_ hvn_ hvc_
                                                              rw [hva_] at ge243_0
                                                              rw [hvc_] at ul243_0
                                                              have HL243_0 := Aside0.mk (show Kd.V (Kd.int .i64) 3 _ w.heap.size _ _ (rd_L3 t228 1) from Kd.V_mk ul243_0 ge243_0)
                                                              clear hva_ hvn_ hvc_ ge243_0 ul243_0
                                                              clear hcc243 hce243
                                                              (try simp only [show (1 : Int).toNat = 1 from rfl, Nat.reduceMul, Nat.reduceEqDiff, Go.Addr.add, ↓reduceIte] at hx243_0)
                                                              have qi243 : (1 < t228.length) = True := eq_true (by omega)
                                                              (try rw [show ((1 : Int)).toNat = 1 from rfl] at hx243_0)
                                                              have HR243_0 := Aside0.mk hi243_0
                                                              have HC243_0 := Aside0.mk hl243_0
                                                              clear hi243_0 hl243_0
                                                              replace p243 := eq_true p243
                                                              replace q243 := eq_true q243
                                                              have ea_ := Option.some.inj (hx241_0.symm.trans hx243_0)
                                                              injection ea_ with ea_ en_ ec_
                                                              subst ea_
                                                              subst ec_
                                                              clear en_
                                                              have p244 : 0 ≤ (x21_7 : Int) := of_decide_eq_true (by first | (with_reducible assumption) | assumption)
                                                              have q244 : x21_7 < ((rd_L3 t228 1).length : Int) := of_decide_eq_true (by first | (with_reducible assumption) | assumption)
                                                              obtain ⟨ad244, e244, hx244_0⟩ := Kd.at_int (by repeat (first | (with_reducible exact HR243_0.out) | (with_reducible refine Kd.C_alloc ?_ _) | (with_reducible refine Kd.C_drewN ?_ _) | (with_reducible refine Kd.C_drew ?_) | exact HR243_0.out)) x21_7 p244 q244
                                                              cases e244
                                                              replace p244 := eq_true p244
                                                              replace q244 := eq_true q244
                                                              obtain ⟨Ao99, co99, eo99⟩ := Kd.V_slice HO_18.out
                                                              subst eo99
                                                              have p245 : 0 ≤ (1 : Int) := (by omega)
                                                              have q245 : 1 < (t228.length : Int) := of_decide_eq_true (by first | (with_reducible assumption) | assumption)
                                                              obtain ⟨ad245, A245_0, c245_0, e245, hx245_0, hl245_0, hi245_0⟩ := at_L3 (Kd.N_reads' HO_19.out).2.2 1 p245 q245
                                                              obtain rfl : ad241 = ad245 := (by injection e245)
                                                              obtain ⟨ce245, hce245, hMe245, hcc245⟩ := Kd.N_get HO_19.out [] 1 p245 (by first | exact q245 | exact of_decide_eq_true (by first | (with_reducible assumption) | assumption) | (have e_ := (Kd.N_reads' HO_19.out).1; omega))
                                                              obtain ⟨ua245_0, uc245_0, rfl, ul245_0, ge245_0⟩ := Kd.FK_slice_open hMe245
                                                              have hv245_0 := hcc245 0 _ rfl
                                                              rw [Nat.add_zero, show ((Kd.slice 3 (Kd.int .i64))).sz = 1 from rfl, Nat.mul_one] at hv245_0
                                                              replace hv245_0 := Option.some.inj (hv245_0.symm.trans hx245_0)
                                                              injection hv245_0 with hva_ hvn_ hvc_
                                                              rw [hva_] at ge245_0
                                                              rw [hvc_] at ul245_0
                                                              have HL245_0 := Aside0.mk (show Kd.V (Kd.int .i64) 3 _ w.heap.size _ _ (rd_L3 t228 1) from Kd.V_mk ul245_0 ge245_0)
                                                              clear hva_ hvn_ hvc_ ge245_0 ul245_0
                                                              clear hcc245 hce245
                                                              (try simp only [show (1 : Int).toNat = 1 from rfl, Nat.reduceMul, Nat.reduceEqDiff, Go.Addr.add, ↓reduceIte] at hx245_0)
                                                              have qi245 : (1 < t228.length) = True := eq_true (by omega)
                                                              (try rw [show ((1 : Int)).toNat = 1 from rfl] at hx245_0)
                                                              have HR245_0 := Aside0.mk hi245_0
                                                              have HC245_0 := Aside0.mk hl245_0
                                                              clear hi245_0 hl245_0
                                                              replace p245 := eq_true p245
                                                              replace q245 := eq_true q245
                                                              have ea_ := Option.some.inj (hx241_0.symm.trans hx245_0)
                                                              injection ea_ with ea_ en_ ec_
                                                              subst ea_
                                                              subst ec_
                                                              clear en_
                                                              have p246 : 0 ≤ (x21_7 : Int) := of_decide_eq_true (by first | (with_reducible assumption) | assumption)
                                                              have q246 : x21_7 < ((rd_L3 t228 1).length : Int) := of_decide_eq_true (by first | (with_reducible assumption) | assumption)
                                                              obtain ⟨ad246, e246, hx246_0⟩ := Kd.at_int (by repeat (first | (with_reducible exact HR245_0.out) | (with_reducible refine Kd.C_alloc ?_ _) | (with_reducible refine Kd.C_drewN ?_ _) | (with_reducible refine Kd.C_drew ?_) | exact HR245_0.out)) x21_7 p246 q246
                                                              cases e246
                                                              replace p246 := eq_true p246
                                                              replace q246 := eq_true q246
                                                              have p247 : 0 ≤ ((rd (rd_L3 t228 1) x21_7) : Int) := of_decide_eq_true (by first | (with_reducible assumption) | assumption)
                                                              have q247 : (rd (rd_L3 t228 1) x21_7) < (t225.length : Int) := of_decide_eq_true (by first | (with_reducible assumption) | assumption)
                                                              obtain ⟨ad247, e247, hx247_0⟩ := Kd.at_string (Kd.V_reads' HO_18.out).2.2 (rd (rd_L3 t228 1) x21_7) p247 q247
                                                              cases e247
                                                              replace p247 := eq_true p247
                                                              replace q247 := eq_true q247
                                                              have p248 : 0 ≤ (x21_7 : Int) := of_decide_eq_true (by first | (with_reducible assumption) | assumption)
                                                              have q248 : x21_7 < (t216.length : Int) := of_decide_eq_true (by first | (with_reducible assumption) | assumption)
                                                              obtain ⟨ad248, e248, hx248_0⟩ := Kd.at_string (Kd.V_reads' HO_16.out).2.2 x21_7 p248 q248
                                                              cases e248
                                                              replace p248 := eq_true p248
                                                              replace q248 := eq_true q248
                                                              go_wp2
                                                              repeat (go_quiet (fail); try go_wp2)
                                                              go_roundg k7
                                                              case measure => have := HJ5.out; have := HK2.out; have := HJ25.out; have := HK4.out; have := HJ57.out; have := HK6.out; have := HK7.out; omega
                                                              case rel => exact ⟨(wrap64 (x21_7 + 1)), (by first | rfl | (simp; done) | (simp [*]; done)), H', ⟨by have := HJ5.out; have := HK2.out; have := HJ25.out; have := HK4.out; have := HJ57.out; have := HK6.out; have := HK7.out; omega⟩, ⟨by (with_reducible repeat (first | apply Kd.V_alloc | apply Kd.V_drewN | apply Kd.V_drew)); exact HO_16.out⟩, ⟨by (with_reducible repeat (first | apply Kd.V_alloc | apply Kd.V_drewN | apply Kd.V_drew)); exact HO_18.out⟩, ⟨by (with_reducible repeat (first | apply Kd.N_alloc | apply Kd.N_drewN | apply Kd.N_drew)); exact HO_19.out⟩, ⟨by repeat (first | (with_reducible first | exact HB.out | apply below_alloc | apply pw_below_drewN | apply below_drew1) | exact HB.out)⟩⟩
                                                          · rw [if_neg c97] at H
                                                            have c97b0 : ((rdOf ByteArray.empty t225 (rd (rd_L3 t228 1) x21_7)).toList == (rdOf ByteArray.empty t216 x21_7).toList) = false := beq_eq_false_iff_ne.mpr c97
                                                            have c97b1 : ((rdOf ByteArray.empty t225 (rd (rd_L3 t228 1) x21_7)).toList != (rdOf ByteArray.empty t216 x21_7).toList) = true := bne_iff_ne.mpr c97
                                                            as_aux_lemma =>
                                                              exact absurd ((Option.some.inj H).trans hrt_.out) (by decide)
                                                        · rw [if_neg c96] at H
                                                          exact absurd H (by simp)
                                                      · rw [if_neg c95] at H
                                                        exact absurd H (by simp)
                                                · rw [if_neg c92] at H
                                                  exact absurd H (by simp)
                                              · rw [if_neg c91] at H
                                                exact absurd H (by simp)
                                            · rw [if_neg c90] at H
                                              exact absurd H (by simp)
                                          · rw [if_neg c89] at H
                                            have c89b0 : decide (x21_7 < (t216.length : Int)) = false := decide_eq_false c89
                                            clear c89
                                            replace H := Option.bind_eq_some_iff.mp H
                                            obtain ⟨t249, A1000, H⟩ := H
                                            replace H : (some t249) = some r := H
                                            have A100 := Aside0.mk A1000
                                            clear A1000
                                            as_aux_lemma =>
                                              obtain rfl := Option.some.inj H
                                              go_wp2_with (first | (go_at_call 12; (with_reducible refine (columbariumlaw7_known.calls k7  t249 _ A100.out).mono ?_); rintro e w101 ⟨rfl, hb⟩; have n0_ := Aside0.mk (Kd.V_below (by (with_reducible repeat (first | apply Kd.V_alloc | apply Kd.V_drewN | apply Kd.V_drew)); exact HO_16.out) hb); have n1_ := Aside0.mk (Kd.V_below (by (with_reducible repeat (first | apply Kd.V_alloc | apply Kd.V_drewN | apply Kd.V_drew)); exact HO_18.out) hb); have n2_ := Aside0.mk (Kd.N_below (by (with_reducible repeat (first | apply Kd.N_alloc | apply Kd.N_drewN | apply Kd.N_drew)); exact HO_19.out) hb); have n3_ := Aside0.mk (below_step (by repeat (first | (with_reducible first | exact HB.out | apply below_alloc | apply pw_below_drewN | apply below_drew1) | exact HB.out)) hb); clear HO_16; clear HO_18; clear HO_19; clear HB; have HO_16 := n0_; have HO_18 := n1_; have HO_19 := n2_; have HB := n3_; clear n0_ n1_ n2_ n3_; (try clear hb); (try clear hb2); (try clear hk); (try clear hi)))
                                              repeat (go_quiet (first | (go_at_call 12; (with_reducible refine (columbariumlaw7_known.calls k7  t249 _ A100.out).mono ?_); rintro e w101 ⟨rfl, hb⟩; have n0_ := Aside0.mk (Kd.V_below (by (with_reducible repeat (first | apply Kd.V_alloc | apply Kd.V_drewN | apply Kd.V_drew)); exact HO_16.out) hb); have n1_ := Aside0.mk (Kd.V_below (by (with_reducible repeat (first | apply Kd.V_alloc | apply Kd.V_drewN | apply Kd.V_drew)); exact HO_18.out) hb); have n2_ := Aside0.mk (Kd.N_below (by (with_reducible repeat (first | apply Kd.N_alloc | apply Kd.N_drewN | apply Kd.N_drew)); exact HO_19.out) hb); have n3_ := Aside0.mk (below_step (by repeat (first | (with_reducible first | exact HB.out | apply below_alloc | apply pw_below_drewN | apply below_drew1) | exact HB.out)) hb); clear HO_16; clear HO_18; clear HO_19; clear HB; have HO_16 := n0_; have HO_18 := n1_; have HO_19 := n2_; have HB := n3_; clear n0_ n1_ n2_ n3_; (try clear hb); (try clear hb2); (try clear hk); (try clear hi))); try go_wp2_with (first | (go_at_call 12; (with_reducible refine (columbariumlaw7_known.calls k7  t249 _ A100.out).mono ?_); rintro e w101 ⟨rfl, hb⟩; have n0_ := Aside0.mk (Kd.V_below (by (with_reducible repeat (first | apply Kd.V_alloc | apply Kd.V_drewN | apply Kd.V_drew)); exact HO_16.out) hb); have n1_ := Aside0.mk (Kd.V_below (by (with_reducible repeat (first | apply Kd.V_alloc | apply Kd.V_drewN | apply Kd.V_drew)); exact HO_18.out) hb); have n2_ := Aside0.mk (Kd.N_below (by (with_reducible repeat (first | apply Kd.N_alloc | apply Kd.N_drewN | apply Kd.N_drew)); exact HO_19.out) hb); have n3_ := Aside0.mk (below_step (by repeat (first | (with_reducible first | exact HB.out | apply below_alloc | apply pw_below_drewN | apply below_drew1) | exact HB.out)) hb); clear HO_16; clear HO_18; clear HO_19; clear HB; have HO_16 := n0_; have HO_18 := n1_; have HO_19 := n2_; have HB := n3_; clear n0_ n1_ n2_ n3_; (try clear hb); (try clear hb2); (try clear hk); (try clear hi))))
                                              go_ret
                                              exact ⟨by first | rfl | (simp [errW_none, errW_some] <;> rfl) | (simp [*, errW_none, errW_some] <;> rfl), by repeat (first | (with_reducible first | exact HB.out | apply below_alloc | apply pw_below_drewN | apply below_drew1) | exact HB.out)⟩

/-- THE ONE PURE STATEMENT of columbariumlaw7_DictRules: yours. -/
def columbariumlaw7_DictRules.Pure : Prop := ∀ (l0 : List ByteArray) (l1 : List ByteArray) (a2 : ByteArray), l0.length ≤ maxLen → (∀ x ∈ l0, x.size ≤ maxLen) → l1.length ≤ maxLen → (∀ x ∈ l1, x.size ≤ maxLen) → a2.size ≤ 140737488351232 → ∃ k, columbariumlaw7_DictRules.f k l0 l1 a2 = some true
theorem columbariumlaw7_DictRules.walk (P : columbariumlaw7_DictRules.Pure) (a0 : Option Addr) (cap0 : Nat) (l0 : List ByteArray) (a1 : Option Addr) (cap1 : Nat) (l1 : List ByteArray) (a2 : ByteArray) (w : World) (hr0 : Kd.C Kd.string w a0 l0.length l0) (hc0 : l0.length ≤ cap0) (hm0 : l0.length ≤ maxLen) (hw0 : ∀ x ∈ l0, x.size ≤ maxLen) (hr1 : Kd.C Kd.string w a1 l1.length l1) (hc1 : l1.length ≤ cap1) (hm1 : l1.length ≤ maxLen) (hw1 : ∀ x ∈ l1, x.size ≤ maxLen) (w2 : a2.size ≤ 140737488351232) :
    Calls Try.prog 4 #[.slice a0 l0.length cap0, .slice a1 l1.length cap1, .string a2] w fun e w' => e = .returned (.bool true) ∧ Below w.heap.size w w' := by
  obtain ⟨k, h⟩ := P l0 l1 a2 hm0 hw0 hm1 hw1 w2
  refine (columbariumlaw7_DictRules.calls k _ _ l0 _ _ l1 a2 true w hr0 hc0 hr1 hc1 ⟨rfl⟩ h).mono ?_
  rintro e w' ⟨rfl, hd⟩
  exact ⟨rfl, hd⟩

end Go.Proofs.Ytllboaghcfeepaa.QDictRules
