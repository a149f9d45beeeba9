-- Written by a program of this session (wip/myprint.py): the machine's side of a law
import Derived.Test.YtllboaghcfeepaaQDictTellsx0
import Derived.Test.YtllboaghcfeepaaQDictTellsx1
import Derived.Test.YtllboaghcfeepaaQDictTellsx2
import Derived.Test.YtllboaghcfeepaaQDictTellsx3
import Derived.Test.YtllboaghcfeepaaQDictTellsx4
import Derived.Test.YtllboaghcfeepaaQDictTellsx5
import Derived.Test.YtllboaghcfeepaaQDictTellsx6
import Derived.Test.YtllboaghcfeepaaQDictTellsx7
import Derived.Test.YtllboaghcfeepaaQDictTellsx9
namespace Go.Proofs.Ytllboaghcfeepaa.QDictTells
open Go.RowKit Go.Proofs.YtllboaghcfeepaaW.PrintWords Go.Proofs.YtllboaghcfeepaaW.PrintLast Go.Proofs.YtllboaghcfeepaaW.PrintMore
attribute [local go_sem] max2_int min2_int max_two min_two max_three min_three max_four min_four   -- for this text's walks alone
set_option linter.unusedVariables false
set_option linter.unusedSimpArgs false

/-! ### columbariumlaw7_DictTells: function 7 -/
mutual
def columbariumlaw7_DictTells.j0 : Nat → List ByteArray → List Int → Int → List ByteArray → List (List Int) → List (List Int) → Bool → Option (Bool)
 | 0, _, _, _, _, _, _, _ => none
 | k + 1, x0, x3, x4, x13, x26, x28, x146 => if x146 = true then (some false) else (columbariumlaw7_DictTells.l0 k x0 x3 x4 x13 x26 x28 0)
def columbariumlaw7_DictTells.l0 : Nat → List ByteArray → List Int → Int → List ByteArray → List (List Int) → List (List Int) → Int → Option (Bool)
 | 0, _, _, _, _, _, _, _ => none
 | k + 1, x0, x3, x4, x13, x26, x28, x29 => if x29 < (x26.length : Int) then (if 0 ≤ x29 then (if x29 < (x28.length : Int) then ((columbariumbook_Same_int.f k (rd_L3 x26 x29) (rd_L3 x28 x29)).bind fun t425 => (if t425 = true then (columbariumlaw7_DictTells.l0 k x0 x3 x4 x13 x26 x28 (wrap64 (x29 + 1))) else (some false))) else (none)) else (none)) else ((some (([x0, x13] : List (List ByteArray)) : List (List ByteArray))).bind fun y426 => (columbariumlaw7_DictTells.l1 k x3 x4 y426 (y426.length : Int) 0))
def columbariumlaw7_DictTells.l1 : Nat → List Int → Int → List (List ByteArray) → Int → Int → Option (Bool)
 | 0, _, _, _, _, _ => none
 | k + 1, x3, x4, x165, x166, x167 => if x167 < x166 then (if 0 ≤ x167 then (if x167 < (x165.length : Int) then ((dict_Encode.f k (rd_L2 x165 x167)).bind fun bt431 => ((columbariumref7_Encode.f k (rd_L2 x165 x167)).bind fun bt435 => (if (strOfNums bt431.1).toList = (strOfNums bt435.1).toList then (if bt431.2 = bt435.2 then ((dict_Fits.f k (rd_L2 x165 x167)).bind fun t439 => ((columbariumref7_Fits.f k (rd_L2 x165 x167)).bind fun t440 => (columbariumlaw7_DictTells.j3 k x3 x4 bt435.1 x165 x166 x167 (t439 != t440)))) else (columbariumlaw7_DictTells.j3 k x3 x4 bt435.1 x165 x166 x167 true)) else (columbariumlaw7_DictTells.j3 k x3 x4 bt435.1 x165 x166 x167 true)))) else (none)) else (none)) else ((columbariumlaw7_known.f k).bind fun t429 => (some t429))
def columbariumlaw7_DictTells.j3 : Nat → List Int → Int → List Int → List (List ByteArray) → Int → Int → Bool → Option (Bool)
 | 0, _, _, _, _, _, _, _ => none
 | k + 1, x3, x4, x34, x165, x166, x167, x197 => if x197 = true then (some false) else ((some (([] : List Int) : List Int)).bind fun y441 => (if y441.length + x3.length < 140737488355328 then ((some (y441 ++ x3 : List Int)).bind fun y444 => (if y444.length + x34.length < 140737488355328 then ((some (y444 ++ x34 : List Int)).bind fun y447 => ((dict_Decode.f k y447 x4).bind fun bt450 => ((columbariumref7_Decode.f k y447 x4).bind fun bt455 => ((columbariumkeep_Texts.f k bt450.1 bt455.1).bind fun t460 => (if t460 = true then (if bt450.2.1 = bt455.2.1 then (if bt450.2.2 = bt455.2.2 then (columbariumlaw7_DictTells.l1 k y447 x4 x165 x166 (wrap64 (x167 + 1))) else (some false)) else (some false)) else (some false)))))) else (none))) else (none)))
end
def columbariumlaw7_DictTells.f (k : Nat) (l0 : List ByteArray) (l1 : List ByteArray) (a2 : ByteArray) (l3 : List Int) (a4 : Int) : Option (Bool) := (columbariumlaw7_few.f k l0).bind fun t363 => ((columbariumlaw7_few.f k l1).bind fun t366 => ((columbariumlaw7_few.f k (([a2] : List ByteArray))).bind fun t372 => (if 0 < (t372.length : Int) then ((dict_Build.f k t363).bind fun bt376 => ((columbariumref7_Build.f k t363).bind fun bt382 => ((columbariumref7_Build.f k t366).bind fun bt388 => ((dict_Find.f k bt382.1 (rdOf ByteArray.empty t372 0)).bind fun bt394 => ((columbariumref7_Find.f k bt382.1 (rdOf ByteArray.empty t372 0)).bind fun bt396 => ((dict_From.f k bt382.1 (rdOf ByteArray.empty t372 0)).bind fun bt398 => ((columbariumref7_From.f k bt382.1 (rdOf ByteArray.empty t372 0)).bind fun bt400 => ((dict_Merge.f k (([bt382.1, bt388.1, []] : List (List ByteArray)))).bind fun bt405 => ((columbariumref7_Merge.f k (([bt382.1, bt388.1, []] : List (List ByteArray)))).bind fun bt414 => ((columbariumkeep_Texts.f k bt376.1 bt382.1).bind fun t420 => (if t420 = true then ((columbariumbook_Same_int.f k bt376.2 bt382.2).bind fun t421 => (if t421 = true then (if bt394.1 = bt396.1 then (if (bt394.2 != bt396.2) = true then (columbariumlaw7_DictTells.j0 k t363 l3 a4 bt382.1 bt405.2 bt414.2 true) else (if bt398.1 = bt400.1 then (if bt398.2 = bt400.2 then ((columbariumkeep_Texts.f k bt405.1 bt414.1).bind fun t422 => (if t422 = true then (columbariumlaw7_DictTells.j0 k t363 l3 a4 bt382.1 bt405.2 bt414.2 ((bt405.2.length : Int) != (bt414.2.length : Int))) else (columbariumlaw7_DictTells.j0 k t363 l3 a4 bt382.1 bt405.2 bt414.2 true))) else (columbariumlaw7_DictTells.j0 k t363 l3 a4 bt382.1 bt405.2 bt414.2 true)) else (columbariumlaw7_DictTells.j0 k t363 l3 a4 bt382.1 bt405.2 bt414.2 true))) else (columbariumlaw7_DictTells.j0 k t363 l3 a4 bt382.1 bt405.2 bt414.2 true)) else (columbariumlaw7_DictTells.j0 k t363 l3 a4 bt382.1 bt405.2 bt414.2 true))) else (columbariumlaw7_DictTells.j0 k t363 l3 a4 bt382.1 bt405.2 bt414.2 true)))))))))))) else (none))))
theorem columbariumlaw7_DictTells.mono_l : ∀ k, (∀ y0 y1 y2 y3 y4 y5 y6, LeO (columbariumlaw7_DictTells.j0 k y0 y1 y2 y3 y4 y5 y6) (columbariumlaw7_DictTells.j0 (k + 1) y0 y1 y2 y3 y4 y5 y6)) ∧ (∀ y0 y1 y2 y3 y4 y5 y6, LeO (columbariumlaw7_DictTells.l0 k y0 y1 y2 y3 y4 y5 y6) (columbariumlaw7_DictTells.l0 (k + 1) y0 y1 y2 y3 y4 y5 y6)) ∧ (∀ y0 y1 y2 y3 y4, LeO (columbariumlaw7_DictTells.l1 k y0 y1 y2 y3 y4) (columbariumlaw7_DictTells.l1 (k + 1) y0 y1 y2 y3 y4)) ∧ (∀ y0 y1 y2 y3 y4 y5 y6, LeO (columbariumlaw7_DictTells.j3 k y0 y1 y2 y3 y4 y5 y6) (columbariumlaw7_DictTells.j3 (k + 1) y0 y1 y2 y3 y4 y5 y6))
 | 0 => ⟨fun _ _ _ _ _ _ _ r h => by simp [columbariumlaw7_DictTells.j0] at h, fun _ _ _ _ _ _ _ r h => by simp [columbariumlaw7_DictTells.l0] at h, fun _ _ _ _ _ r h => by simp [columbariumlaw7_DictTells.l1] at h, fun _ _ _ _ _ _ _ r h => by simp [columbariumlaw7_DictTells.j3] at h⟩
 | k + 1 => by
  obtain ⟨ih0, ih1, ih2, ih3⟩ := columbariumlaw7_DictTells.mono_l k
  refine ⟨?_, ?_, ?_, ?_⟩
  ·intro y0 y1 y2 y3 y4 y5 y6
   unfold columbariumlaw7_DictTells.j0
   repeat' first
   | (with_reducible exact ih0 _ _ _ _ _ _ _)
   | (with_reducible exact ih1 _ _ _ _ _ _ _)
   | (with_reducible exact ih2 _ _ _ _ _)
   | (with_reducible exact ih3 _ _ _ _ _ _ _)
   | (with_reducible exact columbariumbook_Same_int.mono _ _ _)
   | (with_reducible exact columbariumkeep_Texts.mono _ _ _)
   | (with_reducible exact columbariumlaw7_few.mono _ _)
   | (with_reducible exact columbariumlaw7_known.mono _)
   | (with_reducible exact columbariumref7_Build.mono _ _)
   | (with_reducible exact columbariumref7_Decode.mono _ _ _)
   | (with_reducible exact columbariumref7_Encode.mono _ _)
   | (with_reducible exact columbariumref7_Find.mono _ _ _)
   | (with_reducible exact columbariumref7_Fits.mono _ _)
   | (with_reducible exact columbariumref7_From.mono _ _ _)
   | (with_reducible exact columbariumref7_Merge.mono _ _)
   | (with_reducible exact dict_Build.mono _ _)
   | (with_reducible exact dict_Decode.mono _ _ _)
   | (with_reducible exact dict_Encode.mono _ _)
   | (with_reducible exact dict_Find.mono _ _ _)
   | (with_reducible exact dict_Fits.mono _ _)
   | (with_reducible exact dict_From.mono _ _ _)
   | (with_reducible exact dict_Merge.mono _ _)
   | (with_reducible exact LeO.refl _)
   | (with_reducible exact LeO.none _)
   | (with_reducible refine LeO.ite ?_ ?_)
   | (with_reducible refine LeO.bind ?_ (fun _ => ?_))
   | exact ih0 _ _ _ _ _ _ _
   | exact ih1 _ _ _ _ _ _ _
   | exact ih2 _ _ _ _ _
   | exact ih3 _ _ _ _ _ _ _
   | exact columbariumbook_Same_int.mono _ _ _
   | exact columbariumkeep_Texts.mono _ _ _
   | exact columbariumlaw7_few.mono _ _
   | exact columbariumlaw7_known.mono _
   | exact columbariumref7_Build.mono _ _
   | exact columbariumref7_Decode.mono _ _ _
   | exact columbariumref7_Encode.mono _ _
   | exact columbariumref7_Find.mono _ _ _
   | exact columbariumref7_Fits.mono _ _
   | exact columbariumref7_From.mono _ _ _
   | exact columbariumref7_Merge.mono _ _
   | exact dict_Build.mono _ _
   | exact dict_Decode.mono _ _ _
   | exact dict_Encode.mono _ _
   | exact dict_Find.mono _ _ _
   | exact dict_Fits.mono _ _
   | exact dict_From.mono _ _ _
   | exact dict_Merge.mono _ _
   | exact LeO.none _
   | refine LeO.ite ?_ ?_
   | refine LeO.bind ?_ (fun _ => ?_)
  ·intro y0 y1 y2 y3 y4 y5 y6
   unfold columbariumlaw7_DictTells.l0
   repeat' first
   | (with_reducible exact ih0 _ _ _ _ _ _ _)
   | (with_reducible exact ih1 _ _ _ _ _ _ _)
   | (with_reducible exact ih2 _ _ _ _ _)
   | (with_reducible exact ih3 _ _ _ _ _ _ _)
   | (with_reducible exact columbariumbook_Same_int.mono _ _ _)
   | (with_reducible exact columbariumkeep_Texts.mono _ _ _)
   | (with_reducible exact columbariumlaw7_few.mono _ _)
   | (with_reducible exact columbariumlaw7_known.mono _)
   | (with_reducible exact columbariumref7_Build.mono _ _)
   | (with_reducible exact columbariumref7_Decode.mono _ _ _)
   | (with_reducible exact columbariumref7_Encode.mono _ _)
   | (with_reducible exact columbariumref7_Find.mono _ _ _)
   | (with_reducible exact columbariumref7_Fits.mono _ _)
   | (with_reducible exact columbariumref7_From.mono _ _ _)
   | (with_reducible exact columbariumref7_Merge.mono _ _)
   | (with_reducible exact dict_Build.mono _ _)
   | (with_reducible exact dict_Decode.mono _ _ _)
   | (with_reducible exact dict_Encode.mono _ _)
   | (with_reducible exact dict_Find.mono _ _ _)
   | (with_reducible exact dict_Fits.mono _ _)
   | (with_reducible exact dict_From.mono _ _ _)
   | (with_reducible exact dict_Merge.mono _ _)
   | (with_reducible exact LeO.refl _)
   | (with_reducible exact LeO.none _)
   | (with_reducible refine LeO.ite ?_ ?_)
   | (with_reducible refine LeO.bind ?_ (fun _ => ?_))
   | exact ih0 _ _ _ _ _ _ _
   | exact ih1 _ _ _ _ _ _ _
   | exact ih2 _ _ _ _ _
   | exact ih3 _ _ _ _ _ _ _
   | exact columbariumbook_Same_int.mono _ _ _
   | exact columbariumkeep_Texts.mono _ _ _
   | exact columbariumlaw7_few.mono _ _
   | exact columbariumlaw7_known.mono _
   | exact columbariumref7_Build.mono _ _
   | exact columbariumref7_Decode.mono _ _ _
   | exact columbariumref7_Encode.mono _ _
   | exact columbariumref7_Find.mono _ _ _
   | exact columbariumref7_Fits.mono _ _
   | exact columbariumref7_From.mono _ _ _
   | exact columbariumref7_Merge.mono _ _
   | exact dict_Build.mono _ _
   | exact dict_Decode.mono _ _ _
   | exact dict_Encode.mono _ _
   | exact dict_Find.mono _ _ _
   | exact dict_Fits.mono _ _
   | exact dict_From.mono _ _ _
   | exact dict_Merge.mono _ _
   | exact LeO.none _
   | refine LeO.ite ?_ ?_
   | refine LeO.bind ?_ (fun _ => ?_)
  ·intro y0 y1 y2 y3 y4
   unfold columbariumlaw7_DictTells.l1
   repeat' first
   | (with_reducible exact ih0 _ _ _ _ _ _ _)
   | (with_reducible exact ih1 _ _ _ _ _ _ _)
   | (with_reducible exact ih2 _ _ _ _ _)
   | (with_reducible exact ih3 _ _ _ _ _ _ _)
   | (with_reducible exact columbariumbook_Same_int.mono _ _ _)
   | (with_reducible exact columbariumkeep_Texts.mono _ _ _)
   | (with_reducible exact columbariumlaw7_few.mono _ _)
   | (with_reducible exact columbariumlaw7_known.mono _)
   | (with_reducible exact columbariumref7_Build.mono _ _)
   | (with_reducible exact columbariumref7_Decode.mono _ _ _)
   | (with_reducible exact columbariumref7_Encode.mono _ _)
   | (with_reducible exact columbariumref7_Find.mono _ _ _)
   | (with_reducible exact columbariumref7_Fits.mono _ _)
   | (with_reducible exact columbariumref7_From.mono _ _ _)
   | (with_reducible exact columbariumref7_Merge.mono _ _)
   | (with_reducible exact dict_Build.mono _ _)
   | (with_reducible exact dict_Decode.mono _ _ _)
   | (with_reducible exact dict_Encode.mono _ _)
   | (with_reducible exact dict_Find.mono _ _ _)
   | (with_reducible exact dict_Fits.mono _ _)
   | (with_reducible exact dict_From.mono _ _ _)
   | (with_reducible exact dict_Merge.mono _ _)
   | (with_reducible exact LeO.refl _)
   | (with_reducible exact LeO.none _)
   | (with_reducible refine LeO.ite ?_ ?_)
   | (with_reducible refine LeO.bind ?_ (fun _ => ?_))
   | exact ih0 _ _ _ _ _ _ _
   | exact ih1 _ _ _ _ _ _ _
   | exact ih2 _ _ _ _ _
   | exact ih3 _ _ _ _ _ _ _
   | exact columbariumbook_Same_int.mono _ _ _
   | exact columbariumkeep_Texts.mono _ _ _
   | exact columbariumlaw7_few.mono _ _
   | exact columbariumlaw7_known.mono _
   | exact columbariumref7_Build.mono _ _
   | exact columbariumref7_Decode.mono _ _ _
   | exact columbariumref7_Encode.mono _ _
   | exact columbariumref7_Find.mono _ _ _
   | exact columbariumref7_Fits.mono _ _
   | exact columbariumref7_From.mono _ _ _
   | exact columbariumref7_Merge.mono _ _
   | exact dict_Build.mono _ _
   | exact dict_Decode.mono _ _ _
   | exact dict_Encode.mono _ _
   | exact dict_Find.mono _ _ _
   | exact dict_Fits.mono _ _
   | exact dict_From.mono _ _ _
   | exact dict_Merge.mono _ _
   | exact LeO.none _
   | refine LeO.ite ?_ ?_
   | refine LeO.bind ?_ (fun _ => ?_)
  ·intro y0 y1 y2 y3 y4 y5 y6
   unfold columbariumlaw7_DictTells.j3
   repeat' first
   | (with_reducible exact ih0 _ _ _ _ _ _ _)
   | (with_reducible exact ih1 _ _ _ _ _ _ _)
   | (with_reducible exact ih2 _ _ _ _ _)
   | (with_reducible exact ih3 _ _ _ _ _ _ _)
   | (with_reducible exact columbariumbook_Same_int.mono _ _ _)
   | (with_reducible exact columbariumkeep_Texts.mono _ _ _)
   | (with_reducible exact columbariumlaw7_few.mono _ _)
   | (with_reducible exact columbariumlaw7_known.mono _)
   | (with_reducible exact columbariumref7_Build.mono _ _)
   | (with_reducible exact columbariumref7_Decode.mono _ _ _)
   | (with_reducible exact columbariumref7_Encode.mono _ _)
   | (with_reducible exact columbariumref7_Find.mono _ _ _)
   | (with_reducible exact columbariumref7_Fits.mono _ _)
   | (with_reducible exact columbariumref7_From.mono _ _ _)
   | (with_reducible exact columbariumref7_Merge.mono _ _)
   | (with_reducible exact dict_Build.mono _ _)
   | (with_reducible exact dict_Decode.mono _ _ _)
   | (with_reducible exact dict_Encode.mono _ _)
   | (with_reducible exact dict_Find.mono _ _ _)
   | (with_reducible exact dict_Fits.mono _ _)
   | (with_reducible exact dict_From.mono _ _ _)
   | (with_reducible exact dict_Merge.mono _ _)
   | (with_reducible exact LeO.refl _)
   | (with_reducible exact LeO.none _)
   | (with_reducible refine LeO.ite ?_ ?_)
   | (with_reducible refine LeO.bind ?_ (fun _ => ?_))
   | exact ih0 _ _ _ _ _ _ _
   | exact ih1 _ _ _ _ _ _ _
   | exact ih2 _ _ _ _ _
   | exact ih3 _ _ _ _ _ _ _
   | exact columbariumbook_Same_int.mono _ _ _
   | exact columbariumkeep_Texts.mono _ _ _
   | exact columbariumlaw7_few.mono _ _
   | exact columbariumlaw7_known.mono _
   | exact columbariumref7_Build.mono _ _
   | exact columbariumref7_Decode.mono _ _ _
   | exact columbariumref7_Encode.mono _ _
   | exact columbariumref7_Find.mono _ _ _
   | exact columbariumref7_Fits.mono _ _
   | exact columbariumref7_From.mono _ _ _
   | exact columbariumref7_Merge.mono _ _
   | exact dict_Build.mono _ _
   | exact dict_Decode.mono _ _ _
   | exact dict_Encode.mono _ _
   | exact dict_Find.mono _ _ _
   | exact dict_Fits.mono _ _
   | exact dict_From.mono _ _ _
   | exact dict_Merge.mono _ _
   | exact LeO.none _
   | refine LeO.ite ?_ ?_
   | refine LeO.bind ?_ (fun _ => ?_)
theorem columbariumlaw7_DictTells.mono : ∀ a0 a1 a2 a3 a4 k, LeO (columbariumlaw7_DictTells.f k a0 a1 a2 a3 a4) (columbariumlaw7_DictTells.f (k + 1) a0 a1 a2 a3 a4) := by
 intro a0 a1 a2 a3 a4 k
 obtain ⟨ih0, ih1, ih2, ih3⟩ := columbariumlaw7_DictTells.mono_l k
 unfold columbariumlaw7_DictTells.f
 repeat' first
   | (with_reducible exact ih0 _ _ _ _ _ _ _)
   | (with_reducible exact ih1 _ _ _ _ _ _ _)
   | (with_reducible exact ih2 _ _ _ _ _)
   | (with_reducible exact ih3 _ _ _ _ _ _ _)
   | (with_reducible exact columbariumbook_Same_int.mono _ _ _)
   | (with_reducible exact columbariumkeep_Texts.mono _ _ _)
   | (with_reducible exact columbariumlaw7_few.mono _ _)
   | (with_reducible exact columbariumlaw7_known.mono _)
   | (with_reducible exact columbariumref7_Build.mono _ _)
   | (with_reducible exact columbariumref7_Decode.mono _ _ _)
   | (with_reducible exact columbariumref7_Encode.mono _ _)
   | (with_reducible exact columbariumref7_Find.mono _ _ _)
   | (with_reducible exact columbariumref7_Fits.mono _ _)
   | (with_reducible exact columbariumref7_From.mono _ _ _)
   | (with_reducible exact columbariumref7_Merge.mono _ _)
   | (with_reducible exact dict_Build.mono _ _)
   | (with_reducible exact dict_Decode.mono _ _ _)
   | (with_reducible exact dict_Encode.mono _ _)
   | (with_reducible exact dict_Find.mono _ _ _)
   | (with_reducible exact dict_Fits.mono _ _)
   | (with_reducible exact dict_From.mono _ _ _)
   | (with_reducible exact dict_Merge.mono _ _)
   | (with_reducible exact LeO.refl _)
   | (with_reducible exact LeO.none _)
   | (with_reducible refine LeO.ite ?_ ?_)
   | (with_reducible refine LeO.bind ?_ (fun _ => ?_))
   | exact ih0 _ _ _ _ _ _ _
   | exact ih1 _ _ _ _ _ _ _
   | exact ih2 _ _ _ _ _
   | exact ih3 _ _ _ _ _ _ _
   | exact columbariumbook_Same_int.mono _ _ _
   | exact columbariumkeep_Texts.mono _ _ _
   | exact columbariumlaw7_few.mono _ _
   | exact columbariumlaw7_known.mono _
   | exact columbariumref7_Build.mono _ _
   | exact columbariumref7_Decode.mono _ _ _
   | exact columbariumref7_Encode.mono _ _
   | exact columbariumref7_Find.mono _ _ _
   | exact columbariumref7_Fits.mono _ _
   | exact columbariumref7_From.mono _ _ _
   | exact columbariumref7_Merge.mono _ _
   | exact dict_Build.mono _ _
   | exact dict_Decode.mono _ _ _
   | exact dict_Encode.mono _ _
   | exact dict_Find.mono _ _ _
   | exact dict_Fits.mono _ _
   | exact dict_From.mono _ _ _
   | exact dict_Merge.mono _ _
   | exact LeO.none _
   | refine LeO.ite ?_ ?_
   | refine LeO.bind ?_ (fun _ => ?_)
set_option maxHeartbeats 8000000 in
set_option maxRecDepth 100000 in
theorem columbariumlaw7_DictTells.calls (k : Nat) (A0 : Option Addr) (c0 : Nat) (l0 : List ByteArray) (A1 : Option Addr) (c1 : Nat) (l1 : List ByteArray) (a2 : ByteArray) (P3_ : Nat → Prop) (A3 : Option Addr) (c3 : Nat) (l3 : List Int) (a4 : Int) (r : Bool) (w : World) (hr0 : Kd.C Kd.string w A0 l0.length l0) (hc0 : l0.length ≤ c0) (hr1 : Kd.C Kd.string w A1 l1.length l1) (hc1 : l1.length ≤ c1) (hs3 : Kd.V (Kd.int .u8) 5 w w.heap.size (fun k_ => P3_ k_) (.slice A3 l3.length c3) l3) (hrt_ : Aside0 (r = true)) (h : columbariumlaw7_DictTells.f k l0 l1 a2 l3 a4 = some r) :
  Calls Try.prog 7 #[.slice A0 l0.length c0, .slice A1 l1.length c1, .string a2, .slice A3 l3.length c3, .int .i64 a4] w fun e w' => e = .returned (.bool r) ∧ Below w.heap.size w w' := by
 have HR0 := Aside0.mk hr0
 have HC0 := Aside0.mk hc0
 clear hr0 hc0
 have HR1 := Aside0.mk hr1
 have HC1 := Aside0.mk hc1
 clear hr1 hc1
 have HO3 := Aside0.mk (show Kd.V (Kd.int .u8) 5 w w.heap.size (fun k_ => (P3_ k_ ∨ w.heap.size ≤ k_)) (.slice A3 l3.length c3) l3 from Kd.V_mono hs3 (fun k_ hk => .inl hk))
 have HB := Aside0.mk (Below.refl w.heap.size w)
 have H : ((columbariumlaw7_few.f k l0).bind fun t363 => ((columbariumlaw7_few.f k l1).bind fun t366 => ((columbariumlaw7_few.f k (([a2] : List ByteArray))).bind fun t372 => (if 0 < (t372.length : Int) then ((dict_Build.f k t363).bind fun bt376 => ((columbariumref7_Build.f k t363).bind fun bt382 => ((columbariumref7_Build.f k t366).bind fun bt388 => ((dict_Find.f k bt382.1 (rdOf ByteArray.empty t372 0)).bind fun bt394 => ((columbariumref7_Find.f k bt382.1 (rdOf ByteArray.empty t372 0)).bind fun bt396 => ((dict_From.f k bt382.1 (rdOf ByteArray.empty t372 0)).bind fun bt398 => ((columbariumref7_From.f k bt382.1 (rdOf ByteArray.empty t372 0)).bind fun bt400 => ((dict_Merge.f k (([bt382.1, bt388.1, []] : List (List ByteArray)))).bind fun bt405 => ((columbariumref7_Merge.f k (([bt382.1, bt388.1, []] : List (List ByteArray)))).bind fun bt414 => ((columbariumkeep_Texts.f k bt376.1 bt382.1).bind fun t420 => (if t420 = true then ((columbariumbook_Same_int.f k bt376.2 bt382.2).bind fun t421 => (if t421 = true then (if bt394.1 = bt396.1 then (if (bt394.2 != bt396.2) = true then (columbariumlaw7_DictTells.j0 k t363 l3 a4 bt382.1 bt405.2 bt414.2 true) else (if bt398.1 = bt400.1 then (if bt398.2 = bt400.2 then ((columbariumkeep_Texts.f k bt405.1 bt414.1).bind fun t422 => (if t422 = true then (columbariumlaw7_DictTells.j0 k t363 l3 a4 bt382.1 bt405.2 bt414.2 ((bt405.2.length : Int) != (bt414.2.length : Int))) else (columbariumlaw7_DictTells.j0 k t363 l3 a4 bt382.1 bt405.2 bt414.2 true))) else (columbariumlaw7_DictTells.j0 k t363 l3 a4 bt382.1 bt405.2 bt414.2 true)) else (columbariumlaw7_DictTells.j0 k t363 l3 a4 bt382.1 bt405.2 bt414.2 true))) else (columbariumlaw7_DictTells.j0 k t363 l3 a4 bt382.1 bt405.2 bt414.2 true)) else (columbariumlaw7_DictTells.j0 k t363 l3 a4 bt382.1 bt405.2 bt414.2 true))) else (columbariumlaw7_DictTells.j0 k t363 l3 a4 bt382.1 bt405.2 bt414.2 true)))))))))))) else (none))))) = some r := h
 clear h
 replace H := Option.bind_eq_some_iff.mp H
 obtain ⟨t363, A60, H⟩ := H
 replace H : ((columbariumlaw7_few.f k l1).bind fun t366 => ((columbariumlaw7_few.f k (([a2] : List ByteArray))).bind fun t372 => (if 0 < (t372.length : Int) then ((dict_Build.f k t363).bind fun bt376 => ((columbariumref7_Build.f k t363).bind fun bt382 => ((columbariumref7_Build.f k t366).bind fun bt388 => ((dict_Find.f k bt382.1 (rdOf ByteArray.empty t372 0)).bind fun bt394 => ((columbariumref7_Find.f k bt382.1 (rdOf ByteArray.empty t372 0)).bind fun bt396 => ((dict_From.f k bt382.1 (rdOf ByteArray.empty t372 0)).bind fun bt398 => ((columbariumref7_From.f k bt382.1 (rdOf ByteArray.empty t372 0)).bind fun bt400 => ((dict_Merge.f k (([bt382.1, bt388.1, []] : List (List ByteArray)))).bind fun bt405 => ((columbariumref7_Merge.f k (([bt382.1, bt388.1, []] : List (List ByteArray)))).bind fun bt414 => ((columbariumkeep_Texts.f k bt376.1 bt382.1).bind fun t420 => (if t420 = true then ((columbariumbook_Same_int.f k bt376.2 bt382.2).bind fun t421 => (if t421 = true then (if bt394.1 = bt396.1 then (if (bt394.2 != bt396.2) = true then (columbariumlaw7_DictTells.j0 k t363 l3 a4 bt382.1 bt405.2 bt414.2 true) else (if bt398.1 = bt400.1 then (if bt398.2 = bt400.2 then ((columbariumkeep_Texts.f k bt405.1 bt414.1).bind fun t422 => (if t422 = true then (columbariumlaw7_DictTells.j0 k t363 l3 a4 bt382.1 bt405.2 bt414.2 ((bt405.2.length : Int) != (bt414.2.length : Int))) else (columbariumlaw7_DictTells.j0 k t363 l3 a4 bt382.1 bt405.2 bt414.2 true))) else (columbariumlaw7_DictTells.j0 k t363 l3 a4 bt382.1 bt405.2 bt414.2 true)) else (columbariumlaw7_DictTells.j0 k t363 l3 a4 bt382.1 bt405.2 bt414.2 true))) else (columbariumlaw7_DictTells.j0 k t363 l3 a4 bt382.1 bt405.2 bt414.2 true)) else (columbariumlaw7_DictTells.j0 k t363 l3 a4 bt382.1 bt405.2 bt414.2 true))) else (columbariumlaw7_DictTells.j0 k t363 l3 a4 bt382.1 bt405.2 bt414.2 true)))))))))))) else (none)))) = some r := H
 have A6 := Aside0.mk A60
 clear A60
 replace H := Option.bind_eq_some_iff.mp H
 obtain ⟨t366, A70, H⟩ := H
 replace H : ((columbariumlaw7_few.f k (([a2] : List ByteArray))).bind fun t372 => (if 0 < (t372.length : Int) then ((dict_Build.f k t363).bind fun bt376 => ((columbariumref7_Build.f k t363).bind fun bt382 => ((columbariumref7_Build.f k t366).bind fun bt388 => ((dict_Find.f k bt382.1 (rdOf ByteArray.empty t372 0)).bind fun bt394 => ((columbariumref7_Find.f k bt382.1 (rdOf ByteArray.empty t372 0)).bind fun bt396 => ((dict_From.f k bt382.1 (rdOf ByteArray.empty t372 0)).bind fun bt398 => ((columbariumref7_From.f k bt382.1 (rdOf ByteArray.empty t372 0)).bind fun bt400 => ((dict_Merge.f k (([bt382.1, bt388.1, []] : List (List ByteArray)))).bind fun bt405 => ((columbariumref7_Merge.f k (([bt382.1, bt388.1, []] : List (List ByteArray)))).bind fun bt414 => ((columbariumkeep_Texts.f k bt376.1 bt382.1).bind fun t420 => (if t420 = true then ((columbariumbook_Same_int.f k bt376.2 bt382.2).bind fun t421 => (if t421 = true then (if bt394.1 = bt396.1 then (if (bt394.2 != bt396.2) = true then (columbariumlaw7_DictTells.j0 k t363 l3 a4 bt382.1 bt405.2 bt414.2 true) else (if bt398.1 = bt400.1 then (if bt398.2 = bt400.2 then ((columbariumkeep_Texts.f k bt405.1 bt414.1).bind fun t422 => (if t422 = true then (columbariumlaw7_DictTells.j0 k t363 l3 a4 bt382.1 bt405.2 bt414.2 ((bt405.2.length : Int) != (bt414.2.length : Int))) else (columbariumlaw7_DictTells.j0 k t363 l3 a4 bt382.1 bt405.2 bt414.2 true))) else (columbariumlaw7_DictTells.j0 k t363 l3 a4 bt382.1 bt405.2 bt414.2 true)) else (columbariumlaw7_DictTells.j0 k t363 l3 a4 bt382.1 bt405.2 bt414.2 true))) else (columbariumlaw7_DictTells.j0 k t363 l3 a4 bt382.1 bt405.2 bt414.2 true)) else (columbariumlaw7_DictTells.j0 k t363 l3 a4 bt382.1 bt405.2 bt414.2 true))) else (columbariumlaw7_DictTells.j0 k t363 l3 a4 bt382.1 bt405.2 bt414.2 true)))))))))))) else (none))) = some r := H
 have A7 := Aside0.mk A70
 clear A70
 obtain ⟨y369, hy369⟩ : ∃ y_ : List ByteArray, y_ = (([a2] : List ByteArray)) := ⟨_, rfl⟩
 replace H : ((columbariumlaw7_few.f k y369).bind fun t372 => (if 0 < (t372.length : Int) then ((dict_Build.f k t363).bind fun bt376 => ((columbariumref7_Build.f k t363).bind fun bt382 => ((columbariumref7_Build.f k t366).bind fun bt388 => ((dict_Find.f k bt382.1 (rdOf ByteArray.empty t372 0)).bind fun bt394 => ((columbariumref7_Find.f k bt382.1 (rdOf ByteArray.empty t372 0)).bind fun bt396 => ((dict_From.f k bt382.1 (rdOf ByteArray.empty t372 0)).bind fun bt398 => ((columbariumref7_From.f k bt382.1 (rdOf ByteArray.empty t372 0)).bind fun bt400 => ((dict_Merge.f k (([bt382.1, bt388.1, []] : List (List ByteArray)))).bind fun bt405 => ((columbariumref7_Merge.f k (([bt382.1, bt388.1, []] : List (List ByteArray)))).bind fun bt414 => ((columbariumkeep_Texts.f k bt376.1 bt382.1).bind fun t420 => (if t420 = true then ((columbariumbook_Same_int.f k bt376.2 bt382.2).bind fun t421 => (if t421 = true then (if bt394.1 = bt396.1 then (if (bt394.2 != bt396.2) = true then (columbariumlaw7_DictTells.j0 k t363 l3 a4 bt382.1 bt405.2 bt414.2 true) else (if bt398.1 = bt400.1 then (if bt398.2 = bt400.2 then ((columbariumkeep_Texts.f k bt405.1 bt414.1).bind fun t422 => (if t422 = true then (columbariumlaw7_DictTells.j0 k t363 l3 a4 bt382.1 bt405.2 bt414.2 ((bt405.2.length : Int) != (bt414.2.length : Int))) else (columbariumlaw7_DictTells.j0 k t363 l3 a4 bt382.1 bt405.2 bt414.2 true))) else (columbariumlaw7_DictTells.j0 k t363 l3 a4 bt382.1 bt405.2 bt414.2 true)) else (columbariumlaw7_DictTells.j0 k t363 l3 a4 bt382.1 bt405.2 bt414.2 true))) else (columbariumlaw7_DictTells.j0 k t363 l3 a4 bt382.1 bt405.2 bt414.2 true)) else (columbariumlaw7_DictTells.j0 k t363 l3 a4 bt382.1 bt405.2 bt414.2 true))) else (columbariumlaw7_DictTells.j0 k t363 l3 a4 bt382.1 bt405.2 bt414.2 true)))))))))))) else (none))) = some r := by first | (rw [hy369]; with_reducible exact H) | (have H2_ := (Option.bind_some _ _).symm.trans H; rw [hy369]; with_reducible exact H2_) | (have H2_ := (Option.bind_some _ _).symm.trans H; with_reducible exact H2_) | with_reducible exact H | (rw [hy369]; exact H) | exact H
 have Ny369 := Aside0.mk hy369
 clear hy369
 replace H := Option.bind_eq_some_iff.mp H
 obtain ⟨t372, A80, H⟩ := H
 replace H : (if 0 < (t372.length : Int) then ((dict_Build.f k t363).bind fun bt376 => ((columbariumref7_Build.f k t363).bind fun bt382 => ((columbariumref7_Build.f k t366).bind fun bt388 => ((dict_Find.f k bt382.1 (rdOf ByteArray.empty t372 0)).bind fun bt394 => ((columbariumref7_Find.f k bt382.1 (rdOf ByteArray.empty t372 0)).bind fun bt396 => ((dict_From.f k bt382.1 (rdOf ByteArray.empty t372 0)).bind fun bt398 => ((columbariumref7_From.f k bt382.1 (rdOf ByteArray.empty t372 0)).bind fun bt400 => ((dict_Merge.f k (([bt382.1, bt388.1, []] : List (List ByteArray)))).bind fun bt405 => ((columbariumref7_Merge.f k (([bt382.1, bt388.1, []] : List (List ByteArray)))).bind fun bt414 => ((columbariumkeep_Texts.f k bt376.1 bt382.1).bind fun t420 => (if t420 = true then ((columbariumbook_Same_int.f k bt376.2 bt382.2).bind fun t421 => (if t421 = true then (if bt394.1 = bt396.1 then (if (bt394.2 != bt396.2) = true then (columbariumlaw7_DictTells.j0 k t363 l3 a4 bt382.1 bt405.2 bt414.2 true) else (if bt398.1 = bt400.1 then (if bt398.2 = bt400.2 then ((columbariumkeep_Texts.f k bt405.1 bt414.1).bind fun t422 => (if t422 = true then (columbariumlaw7_DictTells.j0 k t363 l3 a4 bt382.1 bt405.2 bt414.2 ((bt405.2.length : Int) != (bt414.2.length : Int))) else (columbariumlaw7_DictTells.j0 k t363 l3 a4 bt382.1 bt405.2 bt414.2 true))) else (columbariumlaw7_DictTells.j0 k t363 l3 a4 bt382.1 bt405.2 bt414.2 true)) else (columbariumlaw7_DictTells.j0 k t363 l3 a4 bt382.1 bt405.2 bt414.2 true))) else (columbariumlaw7_DictTells.j0 k t363 l3 a4 bt382.1 bt405.2 bt414.2 true)) else (columbariumlaw7_DictTells.j0 k t363 l3 a4 bt382.1 bt405.2 bt414.2 true))) else (columbariumlaw7_DictTells.j0 k t363 l3 a4 bt382.1 bt405.2 bt414.2 true)))))))))))) else (none)) = some r := H
 have A8 := Aside0.mk A80
 clear A80
 by_cases c9 : 0 < (t372.length : Int)
 ·rw [if_pos c9] at H
  have c9b0 : decide (0 < (t372.length : Int)) = true := decide_eq_true c9
  have c9b1 : decide (0 < t372.length) = true := decide_eq_true (by omega)
  clear c9
  replace H := Option.bind_eq_some_iff.mp H
  obtain ⟨⟨t376, t379⟩, A100, H⟩ := H
  replace H : ((columbariumref7_Build.f k t363).bind fun bt382 => ((columbariumref7_Build.f k t366).bind fun bt388 => ((dict_Find.f k bt382.1 (rdOf ByteArray.empty t372 0)).bind fun bt394 => ((columbariumref7_Find.f k bt382.1 (rdOf ByteArray.empty t372 0)).bind fun bt396 => ((dict_From.f k bt382.1 (rdOf ByteArray.empty t372 0)).bind fun bt398 => ((columbariumref7_From.f k bt382.1 (rdOf ByteArray.empty t372 0)).bind fun bt400 => ((dict_Merge.f k (([bt382.1, bt388.1, []] : List (List ByteArray)))).bind fun bt405 => ((columbariumref7_Merge.f k (([bt382.1, bt388.1, []] : List (List ByteArray)))).bind fun bt414 => ((columbariumkeep_Texts.f k t376 bt382.1).bind fun t420 => (if t420 = true then ((columbariumbook_Same_int.f k t379 bt382.2).bind fun t421 => (if t421 = true then (if bt394.1 = bt396.1 then (if (bt394.2 != bt396.2) = true then (columbariumlaw7_DictTells.j0 k t363 l3 a4 bt382.1 bt405.2 bt414.2 true) else (if bt398.1 = bt400.1 then (if bt398.2 = bt400.2 then ((columbariumkeep_Texts.f k bt405.1 bt414.1).bind fun t422 => (if t422 = true then (columbariumlaw7_DictTells.j0 k t363 l3 a4 bt382.1 bt405.2 bt414.2 ((bt405.2.length : Int) != (bt414.2.length : Int))) else (columbariumlaw7_DictTells.j0 k t363 l3 a4 bt382.1 bt405.2 bt414.2 true))) else (columbariumlaw7_DictTells.j0 k t363 l3 a4 bt382.1 bt405.2 bt414.2 true)) else (columbariumlaw7_DictTells.j0 k t363 l3 a4 bt382.1 bt405.2 bt414.2 true))) else (columbariumlaw7_DictTells.j0 k t363 l3 a4 bt382.1 bt405.2 bt414.2 true)) else (columbariumlaw7_DictTells.j0 k t363 l3 a4 bt382.1 bt405.2 bt414.2 true))) else (columbariumlaw7_DictTells.j0 k t363 l3 a4 bt382.1 bt405.2 bt414.2 true))))))))))) = some r := H
  have A10 := Aside0.mk A100
  clear A100
  replace H := Option.bind_eq_some_iff.mp H
  obtain ⟨⟨t382, t385⟩, A110, H⟩ := H
  replace H : ((columbariumref7_Build.f k t366).bind fun bt388 => ((dict_Find.f k t382 (rdOf ByteArray.empty t372 0)).bind fun bt394 => ((columbariumref7_Find.f k t382 (rdOf ByteArray.empty t372 0)).bind fun bt396 => ((dict_From.f k t382 (rdOf ByteArray.empty t372 0)).bind fun bt398 => ((columbariumref7_From.f k t382 (rdOf ByteArray.empty t372 0)).bind fun bt400 => ((dict_Merge.f k (([t382, bt388.1, []] : List (List ByteArray)))).bind fun bt405 => ((columbariumref7_Merge.f k (([t382, bt388.1, []] : List (List ByteArray)))).bind fun bt414 => ((columbariumkeep_Texts.f k t376 t382).bind fun t420 => (if t420 = true then ((columbariumbook_Same_int.f k t379 t385).bind fun t421 => (if t421 = true then (if bt394.1 = bt396.1 then (if (bt394.2 != bt396.2) = true then (columbariumlaw7_DictTells.j0 k t363 l3 a4 t382 bt405.2 bt414.2 true) else (if bt398.1 = bt400.1 then (if bt398.2 = bt400.2 then ((columbariumkeep_Texts.f k bt405.1 bt414.1).bind fun t422 => (if t422 = true then (columbariumlaw7_DictTells.j0 k t363 l3 a4 t382 bt405.2 bt414.2 ((bt405.2.length : Int) != (bt414.2.length : Int))) else (columbariumlaw7_DictTells.j0 k t363 l3 a4 t382 bt405.2 bt414.2 true))) else (columbariumlaw7_DictTells.j0 k t363 l3 a4 t382 bt405.2 bt414.2 true)) else (columbariumlaw7_DictTells.j0 k t363 l3 a4 t382 bt405.2 bt414.2 true))) else (columbariumlaw7_DictTells.j0 k t363 l3 a4 t382 bt405.2 bt414.2 true)) else (columbariumlaw7_DictTells.j0 k t363 l3 a4 t382 bt405.2 bt414.2 true))) else (columbariumlaw7_DictTells.j0 k t363 l3 a4 t382 bt405.2 bt414.2 true)))))))))) = some r := H
  have A11 := Aside0.mk A110
  clear A110
  replace H := Option.bind_eq_some_iff.mp H
  obtain ⟨⟨t388, t391⟩, A120, H⟩ := H
  replace H : ((dict_Find.f k t382 (rdOf ByteArray.empty t372 0)).bind fun bt394 => ((columbariumref7_Find.f k t382 (rdOf ByteArray.empty t372 0)).bind fun bt396 => ((dict_From.f k t382 (rdOf ByteArray.empty t372 0)).bind fun bt398 => ((columbariumref7_From.f k t382 (rdOf ByteArray.empty t372 0)).bind fun bt400 => ((dict_Merge.f k (([t382, t388, []] : List (List ByteArray)))).bind fun bt405 => ((columbariumref7_Merge.f k (([t382, t388, []] : List (List ByteArray)))).bind fun bt414 => ((columbariumkeep_Texts.f k t376 t382).bind fun t420 => (if t420 = true then ((columbariumbook_Same_int.f k t379 t385).bind fun t421 => (if t421 = true then (if bt394.1 = bt396.1 then (if (bt394.2 != bt396.2) = true then (columbariumlaw7_DictTells.j0 k t363 l3 a4 t382 bt405.2 bt414.2 true) else (if bt398.1 = bt400.1 then (if bt398.2 = bt400.2 then ((columbariumkeep_Texts.f k bt405.1 bt414.1).bind fun t422 => (if t422 = true then (columbariumlaw7_DictTells.j0 k t363 l3 a4 t382 bt405.2 bt414.2 ((bt405.2.length : Int) != (bt414.2.length : Int))) else (columbariumlaw7_DictTells.j0 k t363 l3 a4 t382 bt405.2 bt414.2 true))) else (columbariumlaw7_DictTells.j0 k t363 l3 a4 t382 bt405.2 bt414.2 true)) else (columbariumlaw7_DictTells.j0 k t363 l3 a4 t382 bt405.2 bt414.2 true))) else (columbariumlaw7_DictTells.j0 k t363 l3 a4 t382 bt405.2 bt414.2 true)) else (columbariumlaw7_DictTells.j0 k t363 l3 a4 t382 bt405.2 bt414.2 true))) else (columbariumlaw7_DictTells.j0 k t363 l3 a4 t382 bt405.2 bt414.2 true))))))))) = some r := H
  have A12 := Aside0.mk A120
  clear A120
  replace H := Option.bind_eq_some_iff.mp H
  obtain ⟨⟨t394, t395⟩, A130, H⟩ := H
  replace H : ((columbariumref7_Find.f k t382 (rdOf ByteArray.empty t372 0)).bind fun bt396 => ((dict_From.f k t382 (rdOf ByteArray.empty t372 0)).bind fun bt398 => ((columbariumref7_From.f k t382 (rdOf ByteArray.empty t372 0)).bind fun bt400 => ((dict_Merge.f k (([t382, t388, []] : List (List ByteArray)))).bind fun bt405 => ((columbariumref7_Merge.f k (([t382, t388, []] : List (List ByteArray)))).bind fun bt414 => ((columbariumkeep_Texts.f k t376 t382).bind fun t420 => (if t420 = true then ((columbariumbook_Same_int.f k t379 t385).bind fun t421 => (if t421 = true then (if t394 = bt396.1 then (if (t395 != bt396.2) = true then (columbariumlaw7_DictTells.j0 k t363 l3 a4 t382 bt405.2 bt414.2 true) else (if bt398.1 = bt400.1 then (if bt398.2 = bt400.2 then ((columbariumkeep_Texts.f k bt405.1 bt414.1).bind fun t422 => (if t422 = true then (columbariumlaw7_DictTells.j0 k t363 l3 a4 t382 bt405.2 bt414.2 ((bt405.2.length : Int) != (bt414.2.length : Int))) else (columbariumlaw7_DictTells.j0 k t363 l3 a4 t382 bt405.2 bt414.2 true))) else (columbariumlaw7_DictTells.j0 k t363 l3 a4 t382 bt405.2 bt414.2 true)) else (columbariumlaw7_DictTells.j0 k t363 l3 a4 t382 bt405.2 bt414.2 true))) else (columbariumlaw7_DictTells.j0 k t363 l3 a4 t382 bt405.2 bt414.2 true)) else (columbariumlaw7_DictTells.j0 k t363 l3 a4 t382 bt405.2 bt414.2 true))) else (columbariumlaw7_DictTells.j0 k t363 l3 a4 t382 bt405.2 bt414.2 true)))))))) = some r := H
  have A13 := Aside0.mk A130
  clear A130
  replace H := Option.bind_eq_some_iff.mp H
  obtain ⟨⟨t396, t397⟩, A140, H⟩ := H
  replace H : ((dict_From.f k t382 (rdOf ByteArray.empty t372 0)).bind fun bt398 => ((columbariumref7_From.f k t382 (rdOf ByteArray.empty t372 0)).bind fun bt400 => ((dict_Merge.f k (([t382, t388, []] : List (List ByteArray)))).bind fun bt405 => ((columbariumref7_Merge.f k (([t382, t388, []] : List (List ByteArray)))).bind fun bt414 => ((columbariumkeep_Texts.f k t376 t382).bind fun t420 => (if t420 = true then ((columbariumbook_Same_int.f k t379 t385).bind fun t421 => (if t421 = true then (if t394 = t396 then (if (t395 != t397) = true then (columbariumlaw7_DictTells.j0 k t363 l3 a4 t382 bt405.2 bt414.2 true) else (if bt398.1 = bt400.1 then (if bt398.2 = bt400.2 then ((columbariumkeep_Texts.f k bt405.1 bt414.1).bind fun t422 => (if t422 = true then (columbariumlaw7_DictTells.j0 k t363 l3 a4 t382 bt405.2 bt414.2 ((bt405.2.length : Int) != (bt414.2.length : Int))) else (columbariumlaw7_DictTells.j0 k t363 l3 a4 t382 bt405.2 bt414.2 true))) else (columbariumlaw7_DictTells.j0 k t363 l3 a4 t382 bt405.2 bt414.2 true)) else (columbariumlaw7_DictTells.j0 k t363 l3 a4 t382 bt405.2 bt414.2 true))) else (columbariumlaw7_DictTells.j0 k t363 l3 a4 t382 bt405.2 bt414.2 true)) else (columbariumlaw7_DictTells.j0 k t363 l3 a4 t382 bt405.2 bt414.2 true))) else (columbariumlaw7_DictTells.j0 k t363 l3 a4 t382 bt405.2 bt414.2 true))))))) = some r := H
  have A14 := Aside0.mk A140
  clear A140
  replace H := Option.bind_eq_some_iff.mp H
  obtain ⟨⟨t398, t399⟩, A150, H⟩ := H
  replace H : ((columbariumref7_From.f k t382 (rdOf ByteArray.empty t372 0)).bind fun bt400 => ((dict_Merge.f k (([t382, t388, []] : List (List ByteArray)))).bind fun bt405 => ((columbariumref7_Merge.f k (([t382, t388, []] : List (List ByteArray)))).bind fun bt414 => ((columbariumkeep_Texts.f k t376 t382).bind fun t420 => (if t420 = true then ((columbariumbook_Same_int.f k t379 t385).bind fun t421 => (if t421 = true then (if t394 = t396 then (if (t395 != t397) = true then (columbariumlaw7_DictTells.j0 k t363 l3 a4 t382 bt405.2 bt414.2 true) else (if t398 = bt400.1 then (if t399 = bt400.2 then ((columbariumkeep_Texts.f k bt405.1 bt414.1).bind fun t422 => (if t422 = true then (columbariumlaw7_DictTells.j0 k t363 l3 a4 t382 bt405.2 bt414.2 ((bt405.2.length : Int) != (bt414.2.length : Int))) else (columbariumlaw7_DictTells.j0 k t363 l3 a4 t382 bt405.2 bt414.2 true))) else (columbariumlaw7_DictTells.j0 k t363 l3 a4 t382 bt405.2 bt414.2 true)) else (columbariumlaw7_DictTells.j0 k t363 l3 a4 t382 bt405.2 bt414.2 true))) else (columbariumlaw7_DictTells.j0 k t363 l3 a4 t382 bt405.2 bt414.2 true)) else (columbariumlaw7_DictTells.j0 k t363 l3 a4 t382 bt405.2 bt414.2 true))) else (columbariumlaw7_DictTells.j0 k t363 l3 a4 t382 bt405.2 bt414.2 true)))))) = some r := H
  have A15 := Aside0.mk A150
  clear A150
  replace H := Option.bind_eq_some_iff.mp H
  obtain ⟨⟨t400, t401⟩, A160, H⟩ := H
  replace H : ((dict_Merge.f k (([t382, t388, []] : List (List ByteArray)))).bind fun bt405 => ((columbariumref7_Merge.f k (([t382, t388, []] : List (List ByteArray)))).bind fun bt414 => ((columbariumkeep_Texts.f k t376 t382).bind fun t420 => (if t420 = true then ((columbariumbook_Same_int.f k t379 t385).bind fun t421 => (if t421 = true then (if t394 = t396 then (if (t395 != t397) = true then (columbariumlaw7_DictTells.j0 k t363 l3 a4 t382 bt405.2 bt414.2 true) else (if t398 = t400 then (if t399 = t401 then ((columbariumkeep_Texts.f k bt405.1 bt414.1).bind fun t422 => (if t422 = true then (columbariumlaw7_DictTells.j0 k t363 l3 a4 t382 bt405.2 bt414.2 ((bt405.2.length : Int) != (bt414.2.length : Int))) else (columbariumlaw7_DictTells.j0 k t363 l3 a4 t382 bt405.2 bt414.2 true))) else (columbariumlaw7_DictTells.j0 k t363 l3 a4 t382 bt405.2 bt414.2 true)) else (columbariumlaw7_DictTells.j0 k t363 l3 a4 t382 bt405.2 bt414.2 true))) else (columbariumlaw7_DictTells.j0 k t363 l3 a4 t382 bt405.2 bt414.2 true)) else (columbariumlaw7_DictTells.j0 k t363 l3 a4 t382 bt405.2 bt414.2 true))) else (columbariumlaw7_DictTells.j0 k t363 l3 a4 t382 bt405.2 bt414.2 true))))) = some r := H
  have A16 := Aside0.mk A160
  clear A160
  obtain ⟨y402, hy402⟩ : ∃ y_ : List (List ByteArray), y_ = (([t382, t388, []] : List (List ByteArray))) := ⟨_, rfl⟩
  replace H : ((dict_Merge.f k y402).bind fun bt405 => ((columbariumref7_Merge.f k (([t382, t388, []] : List (List ByteArray)))).bind fun bt414 => ((columbariumkeep_Texts.f k t376 t382).bind fun t420 => (if t420 = true then ((columbariumbook_Same_int.f k t379 t385).bind fun t421 => (if t421 = true then (if t394 = t396 then (if (t395 != t397) = true then (columbariumlaw7_DictTells.j0 k t363 l3 a4 t382 bt405.2 bt414.2 true) else (if t398 = t400 then (if t399 = t401 then ((columbariumkeep_Texts.f k bt405.1 bt414.1).bind fun t422 => (if t422 = true then (columbariumlaw7_DictTells.j0 k t363 l3 a4 t382 bt405.2 bt414.2 ((bt405.2.length : Int) != (bt414.2.length : Int))) else (columbariumlaw7_DictTells.j0 k t363 l3 a4 t382 bt405.2 bt414.2 true))) else (columbariumlaw7_DictTells.j0 k t363 l3 a4 t382 bt405.2 bt414.2 true)) else (columbariumlaw7_DictTells.j0 k t363 l3 a4 t382 bt405.2 bt414.2 true))) else (columbariumlaw7_DictTells.j0 k t363 l3 a4 t382 bt405.2 bt414.2 true)) else (columbariumlaw7_DictTells.j0 k t363 l3 a4 t382 bt405.2 bt414.2 true))) else (columbariumlaw7_DictTells.j0 k t363 l3 a4 t382 bt405.2 bt414.2 true))))) = some r := by first | (rw [hy402]; with_reducible exact H) | (have H2_ := (Option.bind_some _ _).symm.trans H; rw [hy402]; with_reducible exact H2_) | (have H2_ := (Option.bind_some _ _).symm.trans H; with_reducible exact H2_) | with_reducible exact H | (rw [hy402]; exact H) | exact H
  have Ny402 := Aside0.mk hy402
  clear hy402
  replace H := Option.bind_eq_some_iff.mp H
  obtain ⟨⟨t405, t408⟩, A170, H⟩ := H
  replace H : ((columbariumref7_Merge.f k (([t382, t388, []] : List (List ByteArray)))).bind fun bt414 => ((columbariumkeep_Texts.f k t376 t382).bind fun t420 => (if t420 = true then ((columbariumbook_Same_int.f k t379 t385).bind fun t421 => (if t421 = true then (if t394 = t396 then (if (t395 != t397) = true then (columbariumlaw7_DictTells.j0 k t363 l3 a4 t382 t408 bt414.2 true) else (if t398 = t400 then (if t399 = t401 then ((columbariumkeep_Texts.f k t405 bt414.1).bind fun t422 => (if t422 = true then (columbariumlaw7_DictTells.j0 k t363 l3 a4 t382 t408 bt414.2 ((t408.length : Int) != (bt414.2.length : Int))) else (columbariumlaw7_DictTells.j0 k t363 l3 a4 t382 t408 bt414.2 true))) else (columbariumlaw7_DictTells.j0 k t363 l3 a4 t382 t408 bt414.2 true)) else (columbariumlaw7_DictTells.j0 k t363 l3 a4 t382 t408 bt414.2 true))) else (columbariumlaw7_DictTells.j0 k t363 l3 a4 t382 t408 bt414.2 true)) else (columbariumlaw7_DictTells.j0 k t363 l3 a4 t382 t408 bt414.2 true))) else (columbariumlaw7_DictTells.j0 k t363 l3 a4 t382 t408 bt414.2 true)))) = some r := H
  have A17 := Aside0.mk A170
  clear A170
  obtain ⟨y411, hy411⟩ : ∃ y_ : List (List ByteArray), y_ = (([t382, t388, []] : List (List ByteArray))) := ⟨_, rfl⟩
  replace H : ((columbariumref7_Merge.f k y411).bind fun bt414 => ((columbariumkeep_Texts.f k t376 t382).bind fun t420 => (if t420 = true then ((columbariumbook_Same_int.f k t379 t385).bind fun t421 => (if t421 = true then (if t394 = t396 then (if (t395 != t397) = true then (columbariumlaw7_DictTells.j0 k t363 l3 a4 t382 t408 bt414.2 true) else (if t398 = t400 then (if t399 = t401 then ((columbariumkeep_Texts.f k t405 bt414.1).bind fun t422 => (if t422 = true then (columbariumlaw7_DictTells.j0 k t363 l3 a4 t382 t408 bt414.2 ((t408.length : Int) != (bt414.2.length : Int))) else (columbariumlaw7_DictTells.j0 k t363 l3 a4 t382 t408 bt414.2 true))) else (columbariumlaw7_DictTells.j0 k t363 l3 a4 t382 t408 bt414.2 true)) else (columbariumlaw7_DictTells.j0 k t363 l3 a4 t382 t408 bt414.2 true))) else (columbariumlaw7_DictTells.j0 k t363 l3 a4 t382 t408 bt414.2 true)) else (columbariumlaw7_DictTells.j0 k t363 l3 a4 t382 t408 bt414.2 true))) else (columbariumlaw7_DictTells.j0 k t363 l3 a4 t382 t408 bt414.2 true)))) = some r := by first | (rw [hy411]; with_reducible exact H) | (have H2_ := (Option.bind_some _ _).symm.trans H; rw [hy411]; with_reducible exact H2_) | (have H2_ := (Option.bind_some _ _).symm.trans H; with_reducible exact H2_) | with_reducible exact H | (rw [hy411]; exact H) | exact H
  have Ny411 := Aside0.mk hy411
  clear hy411
  replace H := Option.bind_eq_some_iff.mp H
  obtain ⟨⟨t414, t417⟩, A180, H⟩ := H
  replace H : ((columbariumkeep_Texts.f k t376 t382).bind fun t420 => (if t420 = true then ((columbariumbook_Same_int.f k t379 t385).bind fun t421 => (if t421 = true then (if t394 = t396 then (if (t395 != t397) = true then (columbariumlaw7_DictTells.j0 k t363 l3 a4 t382 t408 t417 true) else (if t398 = t400 then (if t399 = t401 then ((columbariumkeep_Texts.f k t405 t414).bind fun t422 => (if t422 = true then (columbariumlaw7_DictTells.j0 k t363 l3 a4 t382 t408 t417 ((t408.length : Int) != (t417.length : Int))) else (columbariumlaw7_DictTells.j0 k t363 l3 a4 t382 t408 t417 true))) else (columbariumlaw7_DictTells.j0 k t363 l3 a4 t382 t408 t417 true)) else (columbariumlaw7_DictTells.j0 k t363 l3 a4 t382 t408 t417 true))) else (columbariumlaw7_DictTells.j0 k t363 l3 a4 t382 t408 t417 true)) else (columbariumlaw7_DictTells.j0 k t363 l3 a4 t382 t408 t417 true))) else (columbariumlaw7_DictTells.j0 k t363 l3 a4 t382 t408 t417 true))) = some r := H
  have A18 := Aside0.mk A180
  clear A180
  have HC19 := Aside0.mk H
  clear H
  go_enter Try.func7, Try.ntmps7
  go_upto_region 13 with (first | (go_at_call 9; (with_reducible refine (columbariumlaw7_few.calls k _ _ l0 t363 _ ?side1 ?side2 A6.out).mono ?_); (case side1 => repeat (first | exact HR0.out | (with_reducible refine Kd.C_alloc ?_ _) | (with_reducible refine Kd.C_drewN ?_ _) | (with_reducible refine Kd.C_drew ?_))); (case side2 => exact HC0.out); rintro e w20 ⟨v364, rfl, ho0, hb⟩; have n0_ := Aside0.mk (Kd.V_elder' (mV HO3.out) (Kd.R_base ho0) hb); have n1_ := Aside0.mk (Kd.R_lower (Kd.R_newM (M := fun k_ => (w.heap.size ≤ k_)) ho0 (below_size (mB HB.out)) (fun k_ h_ => h_)) (below_size (mB HB.out))); have n2_ := Aside0.mk (below_step (mB HB.out) hb); clear HO3; clear HB; have HO3 := n0_; have HO365 := n1_; have HB := n2_; clear n0_ n1_ n2_; (try clear hb); (try clear hb2); (try clear hk); (try clear hi); (try clear ho0)) | (go_at_call 9; (with_reducible refine (columbariumlaw7_few.calls k _ _ l1 t366 _ ?side1 ?side2 A7.out).mono ?_); (case side1 => repeat (first | exact (Kd.C_below HR1.out HB.out) | (with_reducible refine Kd.C_alloc ?_ _) | (with_reducible refine Kd.C_drewN ?_ _) | (with_reducible refine Kd.C_drew ?_))); (case side2 => exact HC1.out); rintro e w21 ⟨v367, rfl, ho0, hb⟩; have n0_ := Aside0.mk (Kd.V_elder' (mV HO3.out) (Kd.R_base ho0) hb); have n1_ := Aside0.mk (Kd.R_elder' (mR HO365.out) (Kd.R_base ho0) hb); have n2_ := Aside0.mk (Kd.R_lower (Kd.R_new' (Kd.R_newM (M := fun k_ => (w.heap.size ≤ k_)) ho0 (below_size (mB HB.out)) (fun k_ h_ => h_)) (Kd.R_lt (mR HO365.out))) (below_size (mB HB.out))); have n3_ := Aside0.mk (below_step (mB HB.out) hb); clear HO3; clear HO365; clear HB; have HO3 := n0_; have HO365 := n1_; have HO368 := n2_; have HB := n3_; clear n0_ n1_ n2_ n3_; (try clear hb); (try clear hb2); (try clear hk); (try clear hi); (try clear ho0)) | ((with_reducible refine gate_dst (N := 47) rfl ?_); (try (refine gate_guard (by rfl) ?_; dsimp only)); refine Kd.R_lit Kd.string _ 9 ?hg (N := 47) ?hd (xs := ([a2] : List ByteArray)) (inner := [.string a2]) (ok := fun _ => True) (okp := fun _ => True) ?hr ?hp (fun _ hk => hk) trivial (Below.refl _ _) (Nat.le_refl _) (by simp) ?_; (case hd => rfl); (case hg => rfl); (case hr => first | (go_simp; done) | (go_simp; rfl)); (case hp => exact (Reps.one (show Kd.M Kd.string _ _ _ a2 [.string a2] from rfl) (Reps.none _ _))); intro v370 w22 ho23 hb hg_ hnew_; clear hg_ hnew_; (first | rw [← Ny369.out] at ho23 | (simp only [Int.reduceToNat] at ho23; rw [← Ny369.out] at ho23)); have n0_ := Aside0.mk (Kd.V_elder' (mV HO3.out) (Kd.R_base ho23) hb); have n1_ := Aside0.mk (Kd.R_elder' (mR HO365.out) (Kd.R_base ho23) hb); have n2_ := Aside0.mk (Kd.R_elder' (mR HO368.out) (Kd.R_base ho23) hb); have n3_ := Aside0.mk (Kd.R_lower (Kd.R_new' (Kd.R_new' (Kd.R_newM (M := fun k_ => (w.heap.size ≤ k_)) ho23 (below_size (mB HB.out)) (fun k_ h_ => h_)) (Kd.R_lt (mR HO365.out))) (Kd.R_lt (mR HO368.out))) (below_size (mB HB.out))); have n4_ := Aside0.mk (below_step (mB HB.out) hb); clear HO3; clear HO365; clear HO368; clear HB; have HO3 := n0_; have HO365 := n1_; have HO368 := n2_; have HO371 := n3_; have HB := n4_; clear n0_ n1_ n2_ n3_ n4_; clear hb ho23; obtain ⟨Ao24, co24, eo24⟩ := Kd.R_slice HO371.out; subst eo24) | (go_at_call 9; (with_reducible refine (columbariumlaw7_few.calls k _ _ y369 t372 _ ?side1 ?side2 A8.out).mono ?_); (case side1 => repeat (first | exact (Kd.R_reads' HO371.out).2.2 | (with_reducible refine Kd.C_alloc ?_ _) | (with_reducible refine Kd.C_drewN ?_ _) | (with_reducible refine Kd.C_drew ?_))); (case side2 => exact (Kd.R_reads' HO371.out).2.1); rintro e w25 ⟨v373, rfl, ho0, hb⟩; have n0_ := Aside0.mk (Kd.V_elder' (mV HO3.out) (Kd.R_base ho0) hb); have n1_ := Aside0.mk (Kd.R_elder' (mR HO365.out) (Kd.R_base ho0) hb); have n2_ := Aside0.mk (Kd.R_elder' (mR HO368.out) (Kd.R_base ho0) hb); have n3_ := Aside0.mk (Kd.R_elder' (mR HO371.out) (Kd.R_base ho0) hb); have n4_ := Aside0.mk (Kd.R_lower (Kd.R_new' (Kd.R_new' (Kd.R_new' (Kd.R_newM (M := fun k_ => (w.heap.size ≤ k_)) ho0 (below_size (mB HB.out)) (fun k_ h_ => h_)) (Kd.R_lt (mR HO365.out))) (Kd.R_lt (mR HO368.out))) (Kd.R_lt (mR HO371.out))) (below_size (mB HB.out))); have n5_ := Aside0.mk (below_step (mB HB.out) hb); clear HO3; clear HO365; clear HO368; clear HO371; clear HB; have HO3 := n0_; have HO365 := n1_; have HO368 := n2_; have HO371 := n3_; have HO374 := n4_; have HB := n5_; clear n0_ n1_ n2_ n3_ n4_ n5_; (try clear hb); (try clear hb2); (try clear hk); (try clear hi); (try clear ho0); obtain ⟨Ao26, co26, eo26⟩ := Kd.R_slice HO374.out; subst eo26; have p375 : 0 ≤ (0 : Int) := (by omega); have q375 : 0 < (t372.length : Int) := of_decide_eq_true (by first | (with_reducible assumption) | assumption); obtain ⟨ad375, e375, hx375_0⟩ := Kd.at_string (Kd.R_reads' HO374.out).2.2 0 p375 q375; cases e375; have qi375 : (0 < t372.length) = True := eq_true (by omega); (try rw [show ((0 : Int)).toNat = 0 from rfl] at hx375_0); (try rw [Addr.add_zero'] at hx375_0); replace p375 := eq_true p375; replace q375 := eq_true q375; obtain ⟨Ao27, co27, eo27⟩ := Kd.R_slice HO365.out; subst eo27) | (go_at_call 8; (with_reducible refine (dict_Build.calls k _ _ t363 t376 t379 _ ?side1 ?side2 A10.out).mono ?_); (case side1 => repeat (first | exact (Kd.R_reads' HO365.out).2.2 | (with_reducible refine Kd.C_alloc ?_ _) | (with_reducible refine Kd.C_drewN ?_ _) | (with_reducible refine Kd.C_drew ?_))); (case side2 => exact (Kd.R_reads' HO365.out).2.1); rintro e w28 ⟨v377, v380, rfl, ho0, ho1, hb⟩; have n0_ := Aside0.mk (Kd.V_elder' (mV HO3.out) (Kd.R_base ho1) hb); have n1_ := Aside0.mk (Kd.R_below (mR HO365.out) hb); have n2_ := Aside0.mk (Kd.R_below (mR HO368.out) hb); have n3_ := Aside0.mk (Kd.R_below (mR HO371.out) hb); have n4_ := Aside0.mk (Kd.R_below (mR HO374.out) hb); have n5_ := Aside0.mk (Kd.V_lower (Kd.V_mono (ok' := fun k_ => (P3_ k_ ∨ w.heap.size ≤ k_) ∧ some k_ ≠ (v380 : Value).ownBlock ∧ some k_ ≠ (.slice Ao27 t363.length co27 : Value).ownBlock ∧ some k_ ≠ (v367 : Value).ownBlock ∧ some k_ ≠ (.slice Ao24 y369.length co24 : Value).ownBlock ∧ some k_ ≠ (.slice (some ad375) t372.length co26 : Value).ownBlock) ho0 (fun k_ hk_ => ⟨(.inr (Nat.le_trans (below_size (mB HB.out)) hk_.1)), hk_.2, (Kd.fresh' (Kd.R_lt (mR HO365.out)) k_ hk_.1), (Kd.fresh' (Kd.R_lt (mR HO368.out)) k_ hk_.1), (Kd.fresh' (Kd.R_lt (mR HO371.out)) k_ hk_.1), (Kd.fresh' (Kd.R_lt (mR HO374.out)) k_ hk_.1)⟩)) (below_size (mB HB.out))); have n6_ := Aside0.mk (Kd.R_lower (Kd.R_newM (M := fun k_ => (w.heap.size ≤ k_)) (Kd.R_mono (ok' := fun k_ => True) ho1 (fun _ hk_ => trivial)) (below_size (mB HB.out)) (fun k_ h_ => h_)) (below_size (mB HB.out))); have n7_ := Aside0.mk (below_step (mB HB.out) hb); clear HO3; clear HO365; clear HO368; clear HO371; clear HO374; clear HB; have HO3 := n0_; have HO365 := n1_; have HO368 := n2_; have HO371 := n3_; have HO374 := n4_; have HO378 := n5_; have HO381 := n6_; have HB := n7_; clear n0_ n1_ n2_ n3_ n4_ n5_ n6_ n7_; (try clear hb); (try clear hb2); (try clear hk); (try clear hi); (try clear ho0); (try clear ho1)) | (go_at_call 20; (with_reducible refine (columbariumref7_Build.calls k _ _ t363 t382 t385 _ ?side1 ?side2 A11.out).mono ?_); (case side1 => repeat (first | exact (Kd.R_reads' HO365.out).2.2 | (with_reducible refine Kd.C_alloc ?_ _) | (with_reducible refine Kd.C_drewN ?_ _) | (with_reducible refine Kd.C_drew ?_))); (case side2 => exact (Kd.R_reads' HO365.out).2.1); rintro e w29 ⟨v383, v386, rfl, ho0, ho1, hb⟩; have n0_ := Aside0.mk (Kd.V_elder' (mV HO3.out) (Kd.R_base ho1) hb); have n1_ := Aside0.mk (Kd.R_below (mR HO365.out) hb); have n2_ := Aside0.mk (Kd.R_below (mR HO368.out) hb); have n3_ := Aside0.mk (Kd.R_below (mR HO371.out) hb); have n4_ := Aside0.mk (Kd.R_below (mR HO374.out) hb); have n5_ := Aside0.mk (Kd.V_elder' (mV HO378.out) (Kd.R_base ho1) hb); have n6_ := Aside0.mk (Kd.R_elder' (mR HO381.out) (Kd.R_base ho1) hb); have n7_ := Aside0.mk (Kd.V_lower (Kd.V_mono (ok' := fun k_ => (P3_ k_ ∨ w.heap.size ≤ k_) ∧ some k_ ≠ (v386 : Value).ownBlock ∧ some k_ ≠ (.slice Ao27 t363.length co27 : Value).ownBlock ∧ some k_ ≠ (v367 : Value).ownBlock ∧ some k_ ≠ (.slice Ao24 y369.length co24 : Value).ownBlock ∧ some k_ ≠ (.slice (some ad375) t372.length co26 : Value).ownBlock ∧ some k_ ≠ (v380 : Value).ownBlock) ho0 (fun k_ hk_ => ⟨(.inr (Nat.le_trans (below_size (mB HB.out)) hk_.1)), hk_.2, (Kd.fresh' (Kd.R_lt (mR HO365.out)) k_ hk_.1), (Kd.fresh' (Kd.R_lt (mR HO368.out)) k_ hk_.1), (Kd.fresh' (Kd.R_lt (mR HO371.out)) k_ hk_.1), (Kd.fresh' (Kd.R_lt (mR HO374.out)) k_ hk_.1), (Kd.fresh' (Kd.R_lt (mR HO381.out)) k_ hk_.1)⟩)) (below_size (mB HB.out))); have n8_ := Aside0.mk (Kd.R_lower (Kd.R_new' (Kd.R_newM (M := fun k_ => (w.heap.size ≤ k_)) (Kd.R_mono (ok' := fun k_ => True) ho1 (fun _ hk_ => trivial)) (below_size (mB HB.out)) (fun k_ h_ => h_)) (Kd.R_lt (mR HO381.out))) (below_size (mB HB.out))); have n9_ := Aside0.mk (below_step (mB HB.out) hb); clear HO3; clear HO365; clear HO368; clear HO371; clear HO374; clear HO378; clear HO381; clear HB; have HO3 := n0_; have HO365 := n1_; have HO368 := n2_; have HO371 := n3_; have HO374 := n4_; have HO378 := n5_; have HO381 := n6_; have HO384 := n7_; have HO387 := n8_; have HB := n9_; clear n0_ n1_ n2_ n3_ n4_ n5_ n6_ n7_ n8_ n9_; (try clear hb); (try clear hb2); (try clear hk); (try clear hi); (try clear ho0); (try clear ho1); obtain ⟨Ao30, co30, eo30⟩ := Kd.R_slice HO368.out; subst eo30) | (go_at_call 20; (with_reducible refine (columbariumref7_Build.calls k _ _ t366 t388 t391 _ ?side1 ?side2 A12.out).mono ?_); (case side1 => repeat (first | exact (Kd.R_reads' HO368.out).2.2 | (with_reducible refine Kd.C_alloc ?_ _) | (with_reducible refine Kd.C_drewN ?_ _) | (with_reducible refine Kd.C_drew ?_))); (case side2 => exact (Kd.R_reads' HO368.out).2.1); rintro e w31 ⟨v389, v392, rfl, ho0, ho1, hb⟩; have n0_ := Aside0.mk (Kd.V_elder' (mV HO3.out) (Kd.R_base ho1) hb); have n1_ := Aside0.mk (Kd.R_below (mR HO365.out) hb); have n2_ := Aside0.mk (Kd.R_below (mR HO368.out) hb); have n3_ := Aside0.mk (Kd.R_below (mR HO371.out) hb); have n4_ := Aside0.mk (Kd.R_below (mR HO374.out) hb); have n5_ := Aside0.mk (Kd.V_elder' (mV HO378.out) (Kd.R_base ho1) hb); have n6_ := Aside0.mk (Kd.R_elder' (mR HO381.out) (Kd.R_base ho1) hb); have n7_ := Aside0.mk (Kd.V_elder' (mV HO384.out) (Kd.R_base ho1) hb); have n8_ := Aside0.mk (Kd.R_elder' (mR HO387.out) (Kd.R_base ho1) hb); have n9_ := Aside0.mk (Kd.V_lower (Kd.V_mono (ok' := fun k_ => (P3_ k_ ∨ w.heap.size ≤ k_) ∧ some k_ ≠ (v392 : Value).ownBlock ∧ some k_ ≠ (.slice Ao27 t363.length co27 : Value).ownBlock ∧ some k_ ≠ (.slice Ao30 t366.length co30 : Value).ownBlock ∧ some k_ ≠ (.slice Ao24 y369.length co24 : Value).ownBlock ∧ some k_ ≠ (.slice (some ad375) t372.length co26 : Value).ownBlock ∧ some k_ ≠ (v380 : Value).ownBlock ∧ some k_ ≠ (v386 : Value).ownBlock) ho0 (fun k_ hk_ => ⟨(.inr (Nat.le_trans (below_size (mB HB.out)) hk_.1)), hk_.2, (Kd.fresh' (Kd.R_lt (mR HO365.out)) k_ hk_.1), (Kd.fresh' (Kd.R_lt (mR HO368.out)) k_ hk_.1), (Kd.fresh' (Kd.R_lt (mR HO371.out)) k_ hk_.1), (Kd.fresh' (Kd.R_lt (mR HO374.out)) k_ hk_.1), (Kd.fresh' (Kd.R_lt (mR HO381.out)) k_ hk_.1), (Kd.fresh' (Kd.R_lt (mR HO387.out)) k_ hk_.1)⟩)) (below_size (mB HB.out))); have n10_ := Aside0.mk (Kd.R_lower (Kd.R_new' (Kd.R_new' (Kd.R_newM (M := fun k_ => (w.heap.size ≤ k_)) (Kd.R_mono (ok' := fun k_ => True) ho1 (fun _ hk_ => trivial)) (below_size (mB HB.out)) (fun k_ h_ => h_)) (Kd.R_lt (mR HO381.out))) (Kd.R_lt (mR HO387.out))) (below_size (mB HB.out))); have n11_ := Aside0.mk (below_step (mB HB.out) hb); clear HO3; clear HO365; clear HO368; clear HO371; clear HO374; clear HO378; clear HO381; clear HO384; clear HO387; clear HB; have HO3 := n0_; have HO365 := n1_; have HO368 := n2_; have HO371 := n3_; have HO374 := n4_; have HO378 := n5_; have HO381 := n6_; have HO384 := n7_; have HO387 := n8_; have HO390 := n9_; have HO393 := n10_; have HB := n11_; clear n0_ n1_ n2_ n3_ n4_ n5_ n6_ n7_ n8_ n9_ n10_ n11_; (try clear hb); (try clear hb2); (try clear hk); (try clear hi); (try clear ho0); (try clear ho1); obtain ⟨Ao32, co32, eo32⟩ := Kd.V_slice HO384.out; subst eo32) | (go_at_call 14; (with_reducible refine (dict_Find.calls k _ _ t382 (rdOf ByteArray.empty t372 0) t394 t395 _ ?side1 ?side2 A13.out).mono ?_); (case side1 => repeat (first | exact (Kd.V_reads' HO384.out).2.2 | (with_reducible refine Kd.C_alloc ?_ _) | (with_reducible refine Kd.C_drewN ?_ _) | (with_reducible refine Kd.C_drew ?_))); (case side2 => exact (Kd.V_reads' HO384.out).2.1); rintro e w' ⟨rfl, ⟨nd, rfl⟩⟩; (try first | exact ⟨rfl, _, World.drewN_drewN _ _ _⟩ | exact ⟨rfl, _, Eq.trans (World.drewN_drewN _ _ _) (congrArg (World.drewN _) (Nat.add_assoc _ _ _))⟩)) | (go_at_call 21; (with_reducible refine (columbariumref7_Find.calls k _ _ t382 (rdOf ByteArray.empty t372 0) t396 t397 _ ?side1 ?side2 A14.out).mono ?_); (case side1 => repeat (first | exact (Kd.V_reads' HO384.out).2.2 | (with_reducible refine Kd.C_alloc ?_ _) | (with_reducible refine Kd.C_drewN ?_ _) | (with_reducible refine Kd.C_drew ?_))); (case side2 => exact (Kd.V_reads' HO384.out).2.1); rintro e w' ⟨rfl, ⟨nd, rfl⟩⟩; (try first | exact ⟨rfl, _, World.drewN_drewN _ _ _⟩ | exact ⟨rfl, _, Eq.trans (World.drewN_drewN _ _ _) (congrArg (World.drewN _) (Nat.add_assoc _ _ _))⟩)) | (go_at_call 13; (with_reducible refine (dict_From.calls k _ _ t382 (rdOf ByteArray.empty t372 0) t398 t399 _ ?side1 ?side2 A15.out).mono ?_); (case side1 => repeat (first | exact (Kd.V_reads' HO384.out).2.2 | (with_reducible refine Kd.C_alloc ?_ _) | (with_reducible refine Kd.C_drewN ?_ _) | (with_reducible refine Kd.C_drew ?_))); (case side2 => exact (Kd.V_reads' HO384.out).2.1); rintro e w' ⟨rfl, ⟨nd, rfl⟩⟩; (try first | exact ⟨rfl, _, World.drewN_drewN _ _ _⟩ | exact ⟨rfl, _, Eq.trans (World.drewN_drewN _ _ _) (congrArg (World.drewN _) (Nat.add_assoc _ _ _))⟩)) | (go_at_call 22; (with_reducible refine (columbariumref7_From.calls k _ _ t382 (rdOf ByteArray.empty t372 0) t400 t401 _ ?side1 ?side2 A16.out).mono ?_); (case side1 => repeat (first | exact (Kd.V_reads' HO384.out).2.2 | (with_reducible refine Kd.C_alloc ?_ _) | (with_reducible refine Kd.C_drewN ?_ _) | (with_reducible refine Kd.C_drew ?_))); (case side2 => exact (Kd.V_reads' HO384.out).2.1); rintro e w' ⟨rfl, ⟨nd, rfl⟩⟩; (try first | exact ⟨rfl, _, World.drewN_drewN _ _ _⟩ | exact ⟨rfl, _, Eq.trans (World.drewN_drewN _ _ _) (congrArg (World.drewN _) (Nat.add_assoc _ _ _))⟩); obtain ⟨Ao33, co33, eo33⟩ := Kd.V_slice HO390.out; subst eo33) | ((with_reducible refine gate_dst (N := 93) rfl ?_); (try (refine gate_guard (by rfl) ?_; dsimp only)); refine Kd.N_lit (Kd.slice 9 Kd.string) _ 22 ?hg (N' := 93) ?hd (xs := ([t382, t388, []] : List (List ByteArray))) (inner := [.slice Ao32 t382.length co32, .slice Ao33 t388.length co33, .slice none 0 0]) (ok := (fun k_ => (P3_ k_ ∨ w.heap.size ≤ k_) ∧ some k_ ≠ (.slice Ao27 t363.length co27 : Value).ownBlock ∧ some k_ ≠ (.slice Ao30 t366.length co30 : Value).ownBlock ∧ some k_ ≠ (.slice Ao24 y369.length co24 : Value).ownBlock ∧ some k_ ≠ (.slice (some ad375) t372.length co26 : Value).ownBlock ∧ some k_ ≠ (v380 : Value).ownBlock ∧ some k_ ≠ (v386 : Value).ownBlock ∧ some k_ ≠ (v392 : Value).ownBlock)) (okp := (fun k_ => (P3_ k_ ∨ w.heap.size ≤ k_) ∧ some k_ ≠ (.slice Ao27 t363.length co27 : Value).ownBlock ∧ some k_ ≠ (.slice Ao30 t366.length co30 : Value).ownBlock ∧ some k_ ≠ (.slice Ao24 y369.length co24 : Value).ownBlock ∧ some k_ ≠ (.slice (some ad375) t372.length co26 : Value).ownBlock ∧ some k_ ≠ (v380 : Value).ownBlock ∧ some k_ ≠ (v386 : Value).ownBlock ∧ some k_ ≠ (v392 : Value).ownBlock)) ?hr ?hp (fun _ hk => hk) ((show ∀ k_, w31.heap.size ≤ k_ → (fun k_ => (P3_ k_ ∨ w.heap.size ≤ k_) ∧ some k_ ≠ (.slice Ao27 t363.length co27 : Value).ownBlock ∧ some k_ ≠ (.slice Ao30 t366.length co30 : Value).ownBlock ∧ some k_ ≠ (.slice Ao24 y369.length co24 : Value).ownBlock ∧ some k_ ≠ (.slice (some ad375) t372.length co26 : Value).ownBlock ∧ some k_ ≠ (v380 : Value).ownBlock ∧ some k_ ≠ (v386 : Value).ownBlock ∧ some k_ ≠ (v392 : Value).ownBlock) k_ from fun k_ hk => ⟨(.inr (Nat.le_trans (below_size (mB HB.out)) hk)), Kd.fresh' (Kd.R_lt (mR HO365.out)) k_ hk, Kd.fresh' (Kd.R_lt (mR HO368.out)) k_ hk, Kd.fresh' (Kd.R_lt (mR HO371.out)) k_ hk, Kd.fresh' (Kd.R_lt (mR HO374.out)) k_ hk, Kd.fresh' (Kd.R_lt (mR HO381.out)) k_ hk, Kd.fresh' (Kd.R_lt (mR HO387.out)) k_ hk, Kd.fresh' (Kd.R_lt (mR HO393.out)) k_ hk⟩) _ (Nat.le_refl _)) (Below.refl _ _) (Nat.le_refl _) (by simp) ?_; (case hd => rfl); (case hg => rfl); (case hr => first | (go_simp; done) | (go_simp; rfl)); (case hp => exact (Reps.one (show Kd.FK (Kd.slice 9 Kd.string) _ _ t382 [.slice Ao32 t382.length co32] from (Kd.FK_slice_mk (Kd.V_reads' (Kd.V_mono (ok' := (fun k_ => (P3_ k_ ∨ w.heap.size ≤ k_) ∧ some k_ ≠ (.slice Ao27 t363.length co27 : Value).ownBlock ∧ some k_ ≠ (.slice Ao30 t366.length co30 : Value).ownBlock ∧ some k_ ≠ (.slice Ao24 y369.length co24 : Value).ownBlock ∧ some k_ ≠ (.slice (some ad375) t372.length co26 : Value).ownBlock ∧ some k_ ≠ (v380 : Value).ownBlock ∧ some k_ ≠ (v386 : Value).ownBlock ∧ some k_ ≠ (v392 : Value).ownBlock)) (HO384.out) (fun k_ hk => ⟨hk.1.1, ⟨hk.1.2.2.1, ⟨hk.1.2.2.2.1, ⟨hk.1.2.2.2.2.1, ⟨hk.1.2.2.2.2.2.1, ⟨hk.1.2.2.2.2.2.2, ⟨hk.1.2.1, hk.2⟩⟩⟩⟩⟩⟩⟩))).2.1 (Kd.V_F (by (with_reducible repeat (first | apply Kd.V_alloc | apply Kd.V_drewN | apply Kd.V_drew)); exact (Kd.V_mono (ok' := (fun k_ => (P3_ k_ ∨ w.heap.size ≤ k_) ∧ some k_ ≠ (.slice Ao27 t363.length co27 : Value).ownBlock ∧ some k_ ≠ (.slice Ao30 t366.length co30 : Value).ownBlock ∧ some k_ ≠ (.slice Ao24 y369.length co24 : Value).ownBlock ∧ some k_ ≠ (.slice (some ad375) t372.length co26 : Value).ownBlock ∧ some k_ ≠ (v380 : Value).ownBlock ∧ some k_ ≠ (v386 : Value).ownBlock ∧ some k_ ≠ (v392 : Value).ownBlock)) (HO384.out) (fun k_ hk => ⟨hk.1.1, ⟨hk.1.2.2.1, ⟨hk.1.2.2.2.1, ⟨hk.1.2.2.2.2.1, ⟨hk.1.2.2.2.2.2.1, ⟨hk.1.2.2.2.2.2.2, ⟨hk.1.2.1, hk.2⟩⟩⟩⟩⟩⟩⟩)))))) (Reps.one (show Kd.FK (Kd.slice 9 Kd.string) _ _ t388 [.slice Ao33 t388.length co33] from (Kd.FK_slice_mk (Kd.V_reads' (Kd.V_mono (ok' := (fun k_ => (P3_ k_ ∨ w.heap.size ≤ k_) ∧ some k_ ≠ (.slice Ao27 t363.length co27 : Value).ownBlock ∧ some k_ ≠ (.slice Ao30 t366.length co30 : Value).ownBlock ∧ some k_ ≠ (.slice Ao24 y369.length co24 : Value).ownBlock ∧ some k_ ≠ (.slice (some ad375) t372.length co26 : Value).ownBlock ∧ some k_ ≠ (v380 : Value).ownBlock ∧ some k_ ≠ (v386 : Value).ownBlock ∧ some k_ ≠ (v392 : Value).ownBlock)) (HO390.out) (fun k_ hk => ⟨hk.1, ⟨hk.2.2.1, ⟨hk.2.2.2.1, ⟨hk.2.2.2.2.1, ⟨hk.2.2.2.2.2.1, ⟨hk.2.2.2.2.2.2.1, ⟨hk.2.2.2.2.2.2.2, hk.2.1⟩⟩⟩⟩⟩⟩⟩))).2.1 (Kd.V_F (by (with_reducible repeat (first | apply Kd.V_alloc | apply Kd.V_drewN | apply Kd.V_drew)); exact (Kd.V_mono (ok' := (fun k_ => (P3_ k_ ∨ w.heap.size ≤ k_) ∧ some k_ ≠ (.slice Ao27 t363.length co27 : Value).ownBlock ∧ some k_ ≠ (.slice Ao30 t366.length co30 : Value).ownBlock ∧ some k_ ≠ (.slice Ao24 y369.length co24 : Value).ownBlock ∧ some k_ ≠ (.slice (some ad375) t372.length co26 : Value).ownBlock ∧ some k_ ≠ (v380 : Value).ownBlock ∧ some k_ ≠ (v386 : Value).ownBlock ∧ some k_ ≠ (v392 : Value).ownBlock)) (HO390.out) (fun k_ hk => ⟨hk.1, ⟨hk.2.2.1, ⟨hk.2.2.2.1, ⟨hk.2.2.2.2.1, ⟨hk.2.2.2.2.2.1, ⟨hk.2.2.2.2.2.2.1, ⟨hk.2.2.2.2.2.2.2, hk.2.1⟩⟩⟩⟩⟩⟩⟩)))))) (Reps.one (show Kd.FK (Kd.slice 9 Kd.string) _ _ [] [.slice none 0 0] from (Kd.FK_slice_mk (Nat.le_refl _) (Kd.F_nil _ _ _))) (Reps.none _ _))))); intro v403 w34 ho35 hb hg_ hnew_; clear hg_ hnew_; (first | rw [← Ny402.out] at ho35 | (simp only [Int.reduceToNat] at ho35; rw [← Ny402.out] at ho35)); have n0_ := Aside0.mk (Kd.V_elder' (mV HO3.out) (Kd.N_base ho35) hb); have n1_ := Aside0.mk (Kd.R_below (mR HO365.out) hb); have n2_ := Aside0.mk (Kd.R_below (mR HO368.out) hb); have n3_ := Aside0.mk (Kd.R_below (mR HO371.out) hb); have n4_ := Aside0.mk (Kd.R_below (mR HO374.out) hb); have n5_ := Aside0.mk (Kd.V_elder' (mV HO378.out) (Kd.N_base ho35) hb); have n6_ := Aside0.mk (Kd.R_below (mR HO381.out) hb); have n7_ := Aside0.mk (Kd.V_elder' (mV HO384.out) (Kd.N_base ho35) hb); have n8_ := Aside0.mk (Kd.R_below (mR HO387.out) hb); have n9_ := Aside0.mk (Kd.V_elder' (mV HO390.out) (Kd.N_base ho35) hb); have n10_ := Aside0.mk (Kd.R_below (mR HO393.out) hb); have n11_ := Aside0.mk (Kd.N_lower ho35 (below_size (mB HB.out))); have n12_ := Aside0.mk (below_step (mB HB.out) hb); clear HO3; clear HO365; clear HO368; clear HO371; clear HO374; clear HO378; clear HO381; clear HO384; clear HO387; clear HO390; clear HO393; clear HB; have HO3 := n0_; have HO365 := n1_; have HO368 := n2_; have HO371 := n3_; have HO374 := n4_; have HO378 := n5_; have HO381 := n6_; have HO384 := n7_; have HO387 := n8_; have HO390 := n9_; have HO393 := n10_; have HO404 := n11_; have HB := n12_; clear n0_ n1_ n2_ n3_ n4_ n5_ n6_ n7_ n8_ n9_ n10_ n11_ n12_; clear hb ho35; obtain ⟨Ao36, co36, eo36⟩ := Kd.N_slice HO404.out; subst eo36) | (go_at_call 10; (with_reducible refine (dict_Merge.calls k _ _ y402 t405 t408 _ ?side1 ?side2 A17.out).mono ?_); (case side1 => repeat (first | exact (Kd.N_reads' HO404.out).2.2 | (with_reducible refine Kd.C_alloc ?_ _) | (with_reducible refine Kd.C_drewN ?_ _) | (with_reducible refine Kd.C_drew ?_))); (case side2 => exact (Kd.N_reads' HO404.out).2.1); rintro e w37 ⟨v406, v409, rfl, ho0, ho1, hb⟩; (try replace ho1 := Kd.S_N ho1); have n0_ := Aside0.mk (Kd.V_elder' (mV HO3.out) (Kd.N_base ho1) hb); have n1_ := Aside0.mk (Kd.R_below (mR HO365.out) hb); have n2_ := Aside0.mk (Kd.R_below (mR HO368.out) hb); have n3_ := Aside0.mk (Kd.R_below (mR HO371.out) hb); have n4_ := Aside0.mk (Kd.R_below (mR HO374.out) hb); have n5_ := Aside0.mk (Kd.V_elder' (mV HO378.out) (Kd.N_base ho1) hb); have n6_ := Aside0.mk (Kd.R_below (mR HO381.out) hb); have n7_ := Aside0.mk (Kd.V_elder' (mV HO384.out) (Kd.N_base ho1) hb); have n8_ := Aside0.mk (Kd.R_below (mR HO387.out) hb); have n9_ := Aside0.mk (Kd.V_elder' (mV HO390.out) (Kd.N_base ho1) hb); have n10_ := Aside0.mk (Kd.R_below (mR HO393.out) hb); have n11_ := Aside0.mk (Kd.N_elder' (mN HO404.out) (Kd.N_base ho1) hb); have n12_ := Aside0.mk (Kd.V_lower (Kd.V_mono (ok' := fun k_ => (P3_ k_ ∨ w.heap.size ≤ k_) ∧ some k_ ≠ (v409 : Value).ownBlock ∧ some k_ ≠ (.slice Ao27 t363.length co27 : Value).ownBlock ∧ some k_ ≠ (.slice Ao30 t366.length co30 : Value).ownBlock ∧ some k_ ≠ (.slice Ao24 y369.length co24 : Value).ownBlock ∧ some k_ ≠ (.slice (some ad375) t372.length co26 : Value).ownBlock ∧ some k_ ≠ (v380 : Value).ownBlock ∧ some k_ ≠ (v386 : Value).ownBlock ∧ some k_ ≠ (v392 : Value).ownBlock ∧ some k_ ≠ (.slice Ao36 y402.length co36 : Value).ownBlock) ho0 (fun k_ hk_ => ⟨(.inr (Nat.le_trans (below_size (mB HB.out)) hk_.1)), hk_.2, (Kd.fresh' (Kd.R_lt (mR HO365.out)) k_ hk_.1), (Kd.fresh' (Kd.R_lt (mR HO368.out)) k_ hk_.1), (Kd.fresh' (Kd.R_lt (mR HO371.out)) k_ hk_.1), (Kd.fresh' (Kd.R_lt (mR HO374.out)) k_ hk_.1), (Kd.fresh' (Kd.R_lt (mR HO381.out)) k_ hk_.1), (Kd.fresh' (Kd.R_lt (mR HO387.out)) k_ hk_.1), (Kd.fresh' (Kd.R_lt (mR HO393.out)) k_ hk_.1), (Kd.fresh' (Kd.N_lt (mN HO404.out)) k_ hk_.1)⟩)) (below_size (mB HB.out))); have n13_ := Aside0.mk (Kd.N_lower (Kd.N_mono (ok' := fun k_ => (P3_ k_ ∨ w.heap.size ≤ k_) ∧ some k_ ≠ (.slice Ao27 t363.length co27 : Value).ownBlock ∧ some k_ ≠ (.slice Ao30 t366.length co30 : Value).ownBlock ∧ some k_ ≠ (.slice Ao24 y369.length co24 : Value).ownBlock ∧ some k_ ≠ (.slice (some ad375) t372.length co26 : Value).ownBlock ∧ some k_ ≠ (v380 : Value).ownBlock ∧ some k_ ≠ (v386 : Value).ownBlock ∧ some k_ ≠ (v392 : Value).ownBlock ∧ some k_ ≠ (.slice Ao36 y402.length co36 : Value).ownBlock) ho1 (fun k_ hk_ => ⟨(.inr (Nat.le_trans (below_size (mB HB.out)) hk_)), (Kd.fresh' (Kd.R_lt (mR HO365.out)) k_ hk_), (Kd.fresh' (Kd.R_lt (mR HO368.out)) k_ hk_), (Kd.fresh' (Kd.R_lt (mR HO371.out)) k_ hk_), (Kd.fresh' (Kd.R_lt (mR HO374.out)) k_ hk_), (Kd.fresh' (Kd.R_lt (mR HO381.out)) k_ hk_), (Kd.fresh' (Kd.R_lt (mR HO387.out)) k_ hk_), (Kd.fresh' (Kd.R_lt (mR HO393.out)) k_ hk_), (Kd.fresh' (Kd.N_lt (mN HO404.out)) k_ hk_)⟩)) (below_size (mB HB.out))); have n14_ := Aside0.mk (below_step (mB HB.out) hb); clear HO3; clear HO365; clear HO368; clear HO371; clear HO374; clear HO378; clear HO381; clear HO384; clear HO387; clear HO390; clear HO393; clear HO404; clear HB; have HO3 := n0_; have HO365 := n1_; have HO368 := n2_; have HO371 := n3_; have HO374 := n4_; have HO378 := n5_; have HO381 := n6_; have HO384 := n7_; have HO387 := n8_; have HO390 := n9_; have HO393 := n10_; have HO404 := n11_; have HO407 := n12_; have HO410 := n13_; have HB := n14_; clear n0_ n1_ n2_ n3_ n4_ n5_ n6_ n7_ n8_ n9_ n10_ n11_ n12_ n13_ n14_; (try clear hb); (try clear hb2); (try clear hk); (try clear hi); (try clear ho0); (try clear ho1)) | ((with_reducible refine gate_dst (N := 100) rfl ?_); (try (refine gate_guard (by rfl) ?_; dsimp only)); refine Kd.N_lit (Kd.slice 9 Kd.string) _ 22 ?hg (N' := 100) ?hd (xs := ([t382, t388, []] : List (List ByteArray))) (inner := [.slice Ao32 t382.length co32, .slice Ao33 t388.length co33, .slice none 0 0]) (ok := (fun k_ => (P3_ k_ ∨ w.heap.size ≤ k_) ∧ some k_ ≠ (.slice Ao27 t363.length co27 : Value).ownBlock ∧ some k_ ≠ (.slice Ao30 t366.length co30 : Value).ownBlock ∧ some k_ ≠ (.slice Ao24 y369.length co24 : Value).ownBlock ∧ some k_ ≠ (.slice (some ad375) t372.length co26 : Value).ownBlock ∧ some k_ ≠ (v380 : Value).ownBlock ∧ some k_ ≠ (v386 : Value).ownBlock ∧ some k_ ≠ (v392 : Value).ownBlock ∧ some k_ ≠ (.slice Ao36 y402.length co36 : Value).ownBlock ∧ some k_ ≠ (v409 : Value).ownBlock)) (okp := (fun k_ => (P3_ k_ ∨ w.heap.size ≤ k_) ∧ some k_ ≠ (.slice Ao27 t363.length co27 : Value).ownBlock ∧ some k_ ≠ (.slice Ao30 t366.length co30 : Value).ownBlock ∧ some k_ ≠ (.slice Ao24 y369.length co24 : Value).ownBlock ∧ some k_ ≠ (.slice (some ad375) t372.length co26 : Value).ownBlock ∧ some k_ ≠ (v380 : Value).ownBlock ∧ some k_ ≠ (v386 : Value).ownBlock ∧ some k_ ≠ (v392 : Value).ownBlock ∧ some k_ ≠ (.slice Ao36 y402.length co36 : Value).ownBlock ∧ some k_ ≠ (v409 : Value).ownBlock)) ?hr ?hp (fun _ hk => hk) ((show ∀ k_, w37.heap.size ≤ k_ → (fun k_ => (P3_ k_ ∨ w.heap.size ≤ k_) ∧ some k_ ≠ (.slice Ao27 t363.length co27 : Value).ownBlock ∧ some k_ ≠ (.slice Ao30 t366.length co30 : Value).ownBlock ∧ some k_ ≠ (.slice Ao24 y369.length co24 : Value).ownBlock ∧ some k_ ≠ (.slice (some ad375) t372.length co26 : Value).ownBlock ∧ some k_ ≠ (v380 : Value).ownBlock ∧ some k_ ≠ (v386 : Value).ownBlock ∧ some k_ ≠ (v392 : Value).ownBlock ∧ some k_ ≠ (.slice Ao36 y402.length co36 : Value).ownBlock ∧ some k_ ≠ (v409 : Value).ownBlock) k_ from fun k_ hk => ⟨(.inr (Nat.le_trans (below_size (mB HB.out)) hk)), Kd.fresh' (Kd.R_lt (mR HO365.out)) k_ hk, Kd.fresh' (Kd.R_lt (mR HO368.out)) k_ hk, Kd.fresh' (Kd.R_lt (mR HO371.out)) k_ hk, Kd.fresh' (Kd.R_lt (mR HO374.out)) k_ hk, Kd.fresh' (Kd.R_lt (mR HO381.out)) k_ hk, Kd.fresh' (Kd.R_lt (mR HO387.out)) k_ hk, Kd.fresh' (Kd.R_lt (mR HO393.out)) k_ hk, Kd.fresh' (Kd.N_lt (mN HO404.out)) k_ hk, Kd.fresh' (Kd.N_lt (mN HO410.out)) k_ hk⟩) _ (Nat.le_refl _)) (Below.refl _ _) (Nat.le_refl _) (by simp) ?_; (case hd => rfl); (case hg => rfl); (case hr => first | (go_simp; done) | (go_simp; rfl)); (case hp => exact (Reps.one (show Kd.FK (Kd.slice 9 Kd.string) _ _ t382 [.slice Ao32 t382.length co32] from (Kd.FK_slice_mk (Kd.V_reads' (Kd.V_mono (ok' := (fun k_ => (P3_ k_ ∨ w.heap.size ≤ k_) ∧ some k_ ≠ (.slice Ao27 t363.length co27 : Value).ownBlock ∧ some k_ ≠ (.slice Ao30 t366.length co30 : Value).ownBlock ∧ some k_ ≠ (.slice Ao24 y369.length co24 : Value).ownBlock ∧ some k_ ≠ (.slice (some ad375) t372.length co26 : Value).ownBlock ∧ some k_ ≠ (v380 : Value).ownBlock ∧ some k_ ≠ (v386 : Value).ownBlock ∧ some k_ ≠ (v392 : Value).ownBlock ∧ some k_ ≠ (.slice Ao36 y402.length co36 : Value).ownBlock ∧ some k_ ≠ (v409 : Value).ownBlock)) (HO384.out) (fun k_ hk => ⟨hk.1.1.1.1, ⟨hk.1.1.1.2.2.1, ⟨hk.1.1.1.2.2.2.1, ⟨hk.1.1.1.2.2.2.2.1, ⟨hk.1.1.1.2.2.2.2.2.1, ⟨hk.1.1.1.2.2.2.2.2.2, ⟨hk.1.1.1.2.1, ⟨hk.1.1.2, ⟨hk.1.2, hk.2⟩⟩⟩⟩⟩⟩⟩⟩⟩))).2.1 (Kd.V_F (by (with_reducible repeat (first | apply Kd.V_alloc | apply Kd.V_drewN | apply Kd.V_drew)); exact (Kd.V_mono (ok' := (fun k_ => (P3_ k_ ∨ w.heap.size ≤ k_) ∧ some k_ ≠ (.slice Ao27 t363.length co27 : Value).ownBlock ∧ some k_ ≠ (.slice Ao30 t366.length co30 : Value).ownBlock ∧ some k_ ≠ (.slice Ao24 y369.length co24 : Value).ownBlock ∧ some k_ ≠ (.slice (some ad375) t372.length co26 : Value).ownBlock ∧ some k_ ≠ (v380 : Value).ownBlock ∧ some k_ ≠ (v386 : Value).ownBlock ∧ some k_ ≠ (v392 : Value).ownBlock ∧ some k_ ≠ (.slice Ao36 y402.length co36 : Value).ownBlock ∧ some k_ ≠ (v409 : Value).ownBlock)) (HO384.out) (fun k_ hk => ⟨hk.1.1.1.1, ⟨hk.1.1.1.2.2.1, ⟨hk.1.1.1.2.2.2.1, ⟨hk.1.1.1.2.2.2.2.1, ⟨hk.1.1.1.2.2.2.2.2.1, ⟨hk.1.1.1.2.2.2.2.2.2, ⟨hk.1.1.1.2.1, ⟨hk.1.1.2, ⟨hk.1.2, hk.2⟩⟩⟩⟩⟩⟩⟩⟩⟩)))))) (Reps.one (show Kd.FK (Kd.slice 9 Kd.string) _ _ t388 [.slice Ao33 t388.length co33] from (Kd.FK_slice_mk (Kd.V_reads' (Kd.V_mono (ok' := (fun k_ => (P3_ k_ ∨ w.heap.size ≤ k_) ∧ some k_ ≠ (.slice Ao27 t363.length co27 : Value).ownBlock ∧ some k_ ≠ (.slice Ao30 t366.length co30 : Value).ownBlock ∧ some k_ ≠ (.slice Ao24 y369.length co24 : Value).ownBlock ∧ some k_ ≠ (.slice (some ad375) t372.length co26 : Value).ownBlock ∧ some k_ ≠ (v380 : Value).ownBlock ∧ some k_ ≠ (v386 : Value).ownBlock ∧ some k_ ≠ (v392 : Value).ownBlock ∧ some k_ ≠ (.slice Ao36 y402.length co36 : Value).ownBlock ∧ some k_ ≠ (v409 : Value).ownBlock)) (HO390.out) (fun k_ hk => ⟨hk.1.1.1, ⟨hk.1.1.2.2.1, ⟨hk.1.1.2.2.2.1, ⟨hk.1.1.2.2.2.2.1, ⟨hk.1.1.2.2.2.2.2.1, ⟨hk.1.1.2.2.2.2.2.2.1, ⟨hk.1.1.2.2.2.2.2.2.2, ⟨hk.1.1.2.1, ⟨hk.1.2, hk.2⟩⟩⟩⟩⟩⟩⟩⟩⟩))).2.1 (Kd.V_F (by (with_reducible repeat (first | apply Kd.V_alloc | apply Kd.V_drewN | apply Kd.V_drew)); exact (Kd.V_mono (ok' := (fun k_ => (P3_ k_ ∨ w.heap.size ≤ k_) ∧ some k_ ≠ (.slice Ao27 t363.length co27 : Value).ownBlock ∧ some k_ ≠ (.slice Ao30 t366.length co30 : Value).ownBlock ∧ some k_ ≠ (.slice Ao24 y369.length co24 : Value).ownBlock ∧ some k_ ≠ (.slice (some ad375) t372.length co26 : Value).ownBlock ∧ some k_ ≠ (v380 : Value).ownBlock ∧ some k_ ≠ (v386 : Value).ownBlock ∧ some k_ ≠ (v392 : Value).ownBlock ∧ some k_ ≠ (.slice Ao36 y402.length co36 : Value).ownBlock ∧ some k_ ≠ (v409 : Value).ownBlock)) (HO390.out) (fun k_ hk => ⟨hk.1.1.1, ⟨hk.1.1.2.2.1, ⟨hk.1.1.2.2.2.1, ⟨hk.1.1.2.2.2.2.1, ⟨hk.1.1.2.2.2.2.2.1, ⟨hk.1.1.2.2.2.2.2.2.1, ⟨hk.1.1.2.2.2.2.2.2.2, ⟨hk.1.1.2.1, ⟨hk.1.2, hk.2⟩⟩⟩⟩⟩⟩⟩⟩⟩)))))) (Reps.one (show Kd.FK (Kd.slice 9 Kd.string) _ _ [] [.slice none 0 0] from (Kd.FK_slice_mk (Nat.le_refl _) (Kd.F_nil _ _ _))) (Reps.none _ _))))); intro v412 w38 ho39 hb hg_ hnew_; clear hg_ hnew_; (first | rw [← Ny411.out] at ho39 | (simp only [Int.reduceToNat] at ho39; rw [← Ny411.out] at ho39)); have n0_ := Aside0.mk (Kd.V_elder' (mV HO3.out) (Kd.N_base ho39) hb); have n1_ := Aside0.mk (Kd.R_below (mR HO365.out) hb); have n2_ := Aside0.mk (Kd.R_below (mR HO368.out) hb); have n3_ := Aside0.mk (Kd.R_below (mR HO371.out) hb); have n4_ := Aside0.mk (Kd.R_below (mR HO374.out) hb); have n5_ := Aside0.mk (Kd.V_elder' (mV HO378.out) (Kd.N_base ho39) hb); have n6_ := Aside0.mk (Kd.R_below (mR HO381.out) hb); have n7_ := Aside0.mk (Kd.V_elder' (mV HO384.out) (Kd.N_base ho39) hb); have n8_ := Aside0.mk (Kd.R_below (mR HO387.out) hb); have n9_ := Aside0.mk (Kd.V_elder' (mV HO390.out) (Kd.N_base ho39) hb); have n10_ := Aside0.mk (Kd.R_below (mR HO393.out) hb); have n11_ := Aside0.mk (Kd.N_elder' (mN HO404.out) (Kd.N_base ho39) hb); have n12_ := Aside0.mk (Kd.V_elder' (mV HO407.out) (Kd.N_base ho39) hb); have n13_ := Aside0.mk (Kd.N_elder' (mN HO410.out) (Kd.N_base ho39) hb); have n14_ := Aside0.mk (Kd.N_lower ho39 (below_size (mB HB.out))); have n15_ := Aside0.mk (below_step (mB HB.out) hb); clear HO3; clear HO365; clear HO368; clear HO371; clear HO374; clear HO378; clear HO381; clear HO384; clear HO387; clear HO390; clear HO393; clear HO404; clear HO407; clear HO410; clear HB; have HO3 := n0_; have HO365 := n1_; have HO368 := n2_; have HO371 := n3_; have HO374 := n4_; have HO378 := n5_; have HO381 := n6_; have HO384 := n7_; have HO387 := n8_; have HO390 := n9_; have HO393 := n10_; have HO404 := n11_; have HO407 := n12_; have HO410 := n13_; have HO413 := n14_; have HB := n15_; clear n0_ n1_ n2_ n3_ n4_ n5_ n6_ n7_ n8_ n9_ n10_ n11_ n12_ n13_ n14_ n15_; clear hb ho39; obtain ⟨Ao40, co40, eo40⟩ := Kd.N_slice HO413.out; subst eo40) | (go_at_call 23; (with_reducible refine (columbariumref7_Merge.calls k _ _ y411 t414 t417 _ ?side1 ?side2 A18.out).mono ?_); (case side1 => repeat (first | exact (Kd.N_reads' HO413.out).2.2 | (with_reducible refine Kd.C_alloc ?_ _) | (with_reducible refine Kd.C_drewN ?_ _) | (with_reducible refine Kd.C_drew ?_))); (case side2 => exact (Kd.N_reads' HO413.out).2.1); rintro e w41 ⟨v415, v418, rfl, ho0, ho1, hb⟩; (try replace ho1 := Kd.S_N ho1); have n0_ := Aside0.mk (Kd.V_elder' (mV HO3.out) (Kd.N_base ho1) hb); have n1_ := Aside0.mk (Kd.R_below (mR HO365.out) hb); have n2_ := Aside0.mk (Kd.R_below (mR HO368.out) hb); have n3_ := Aside0.mk (Kd.R_below (mR HO371.out) hb); have n4_ := Aside0.mk (Kd.R_below (mR HO374.out) hb); have n5_ := Aside0.mk (Kd.V_elder' (mV HO378.out) (Kd.N_base ho1) hb); have n6_ := Aside0.mk (Kd.R_below (mR HO381.out) hb); have n7_ := Aside0.mk (Kd.V_elder' (mV HO384.out) (Kd.N_base ho1) hb); have n8_ := Aside0.mk (Kd.R_below (mR HO387.out) hb); have n9_ := Aside0.mk (Kd.V_elder' (mV HO390.out) (Kd.N_base ho1) hb); have n10_ := Aside0.mk (Kd.R_below (mR HO393.out) hb); have n11_ := Aside0.mk (Kd.N_elder' (mN HO404.out) (Kd.N_base ho1) hb); have n12_ := Aside0.mk (Kd.V_elder' (mV HO407.out) (Kd.N_base ho1) hb); have n13_ := Aside0.mk (Kd.N_elder' (mN HO410.out) (Kd.N_base ho1) hb); have n14_ := Aside0.mk (Kd.N_elder' (mN HO413.out) (Kd.N_base ho1) hb); have n15_ := Aside0.mk (Kd.V_lower (Kd.V_mono (ok' := fun k_ => (P3_ k_ ∨ w.heap.size ≤ k_) ∧ some k_ ≠ (v418 : Value).ownBlock ∧ some k_ ≠ (.slice Ao27 t363.length co27 : Value).ownBlock ∧ some k_ ≠ (.slice Ao30 t366.length co30 : Value).ownBlock ∧ some k_ ≠ (.slice Ao24 y369.length co24 : Value).ownBlock ∧ some k_ ≠ (.slice (some ad375) t372.length co26 : Value).ownBlock ∧ some k_ ≠ (v380 : Value).ownBlock ∧ some k_ ≠ (v386 : Value).ownBlock ∧ some k_ ≠ (v392 : Value).ownBlock ∧ some k_ ≠ (.slice Ao36 y402.length co36 : Value).ownBlock ∧ some k_ ≠ (v409 : Value).ownBlock ∧ some k_ ≠ (.slice Ao40 y411.length co40 : Value).ownBlock) ho0 (fun k_ hk_ => ⟨(.inr (Nat.le_trans (below_size (mB HB.out)) hk_.1)), hk_.2, (Kd.fresh' (Kd.R_lt (mR HO365.out)) k_ hk_.1), (Kd.fresh' (Kd.R_lt (mR HO368.out)) k_ hk_.1), (Kd.fresh' (Kd.R_lt (mR HO371.out)) k_ hk_.1), (Kd.fresh' (Kd.R_lt (mR HO374.out)) k_ hk_.1), (Kd.fresh' (Kd.R_lt (mR HO381.out)) k_ hk_.1), (Kd.fresh' (Kd.R_lt (mR HO387.out)) k_ hk_.1), (Kd.fresh' (Kd.R_lt (mR HO393.out)) k_ hk_.1), (Kd.fresh' (Kd.N_lt (mN HO404.out)) k_ hk_.1), (Kd.fresh' (Kd.N_lt (mN HO410.out)) k_ hk_.1), (Kd.fresh' (Kd.N_lt (mN HO413.out)) k_ hk_.1)⟩)) (below_size (mB HB.out))); have n16_ := Aside0.mk (Kd.N_lower (Kd.N_mono (ok' := fun k_ => (P3_ k_ ∨ w.heap.size ≤ k_) ∧ some k_ ≠ (.slice Ao27 t363.length co27 : Value).ownBlock ∧ some k_ ≠ (.slice Ao30 t366.length co30 : Value).ownBlock ∧ some k_ ≠ (.slice Ao24 y369.length co24 : Value).ownBlock ∧ some k_ ≠ (.slice (some ad375) t372.length co26 : Value).ownBlock ∧ some k_ ≠ (v380 : Value).ownBlock ∧ some k_ ≠ (v386 : Value).ownBlock ∧ some k_ ≠ (v392 : Value).ownBlock ∧ some k_ ≠ (.slice Ao36 y402.length co36 : Value).ownBlock ∧ some k_ ≠ (v409 : Value).ownBlock ∧ some k_ ≠ (.slice Ao40 y411.length co40 : Value).ownBlock) ho1 (fun k_ hk_ => ⟨(.inr (Nat.le_trans (below_size (mB HB.out)) hk_)), (Kd.fresh' (Kd.R_lt (mR HO365.out)) k_ hk_), (Kd.fresh' (Kd.R_lt (mR HO368.out)) k_ hk_), (Kd.fresh' (Kd.R_lt (mR HO371.out)) k_ hk_), (Kd.fresh' (Kd.R_lt (mR HO374.out)) k_ hk_), (Kd.fresh' (Kd.R_lt (mR HO381.out)) k_ hk_), (Kd.fresh' (Kd.R_lt (mR HO387.out)) k_ hk_), (Kd.fresh' (Kd.R_lt (mR HO393.out)) k_ hk_), (Kd.fresh' (Kd.N_lt (mN HO404.out)) k_ hk_), (Kd.fresh' (Kd.N_lt (mN HO410.out)) k_ hk_), (Kd.fresh' (Kd.N_lt (mN HO413.out)) k_ hk_)⟩)) (below_size (mB HB.out))); have n17_ := Aside0.mk (below_step (mB HB.out) hb); clear HO3; clear HO365; clear HO368; clear HO371; clear HO374; clear HO378; clear HO381; clear HO384; clear HO387; clear HO390; clear HO393; clear HO404; clear HO407; clear HO410; clear HO413; clear HB; have HO3 := n0_; have HO365 := n1_; have HO368 := n2_; have HO371 := n3_; have HO374 := n4_; have HO378 := n5_; have HO381 := n6_; have HO384 := n7_; have HO387 := n8_; have HO390 := n9_; have HO393 := n10_; have HO404 := n11_; have HO407 := n12_; have HO410 := n13_; have HO413 := n14_; have HO416 := n15_; have HO419 := n16_; have HB := n17_; clear n0_ n1_ n2_ n3_ n4_ n5_ n6_ n7_ n8_ n9_ n10_ n11_ n12_ n13_ n14_ n15_ n16_ n17_; (try clear hb); (try clear hb2); (try clear hk); (try clear hi); (try clear ho0); (try clear ho1)))
  repeat (go_quiet (fail))
  (try simp only [Act.put, List.setIfInBounds_toArray, List.set_cons_zero, List.set_cons_succ])
  go_cut [146] (fun v146 wc => ∃ (kq : Nat) (x146_18 : Bool), v146 = .bool x146_18 ∧ Aside0 (columbariumlaw7_DictTells.j0 kq t363 l3 a4 t382 t408 t417 x146_18 = some r) ∧ Aside0 (kq ≤ k) ∧ Aside0 (Kd.R Kd.string 9 wc w.heap.size (fun k_ => (w.heap.size ≤ k_)) (.slice Ao27 t363.length co27) t363) ∧ Aside0 (Kd.V (Kd.int .u8) 5 wc w.heap.size (fun k_ => (P3_ k_ ∨ w.heap.size ≤ k_) ∧ some k_ ≠ ((.slice Ao27 t363.length co27) : Value).ownBlock ∧ some k_ ≠ (v409 : Value).ownBlock ∧ some k_ ≠ (v418 : Value).ownBlock) (.slice A3 l3.length c3) l3) ∧ Aside0 (Kd.V Kd.string 9 wc w.heap.size (fun k_ => (P3_ k_ ∨ w.heap.size ≤ k_) ∧ some k_ ≠ ((.slice Ao27 t363.length co27) : Value).ownBlock ∧ some k_ ≠ (v409 : Value).ownBlock ∧ some k_ ≠ (v418 : Value).ownBlock) (.slice Ao32 t382.length co32) t382) ∧ Aside0 (Kd.N (Kd.slice 3 (Kd.int .i64)) 23 wc w.heap.size (fun k_ => (P3_ k_ ∨ w.heap.size ≤ k_) ∧ some k_ ≠ ((.slice Ao27 t363.length co27) : Value).ownBlock ∧ some k_ ≠ (v418 : Value).ownBlock) v409 t408) ∧ Aside0 (Kd.N (Kd.slice 3 (Kd.int .i64)) 23 wc w.heap.size (fun k_ => (P3_ k_ ∨ w.heap.size ≤ k_) ∧ some k_ ≠ ((.slice Ao27 t363.length co27) : Value).ownBlock ∧ some k_ ≠ (v409 : Value).ownBlock) v418 t417) ∧ Aside0 (Below w.heap.size w wc))
  case first =>
   have H := HC19.out
   clear HC19
   replace H := Option.bind_eq_some_iff.mp H
   obtain ⟨t420, A420, H⟩ := H
   replace H : (if t420 = true then ((columbariumbook_Same_int.f k t379 t385).bind fun t421 => (if t421 = true then (if t394 = t396 then (if (t395 != t397) = true then (columbariumlaw7_DictTells.j0 k t363 l3 a4 t382 t408 t417 true) else (if t398 = t400 then (if t399 = t401 then ((columbariumkeep_Texts.f k t405 t414).bind fun t422 => (if t422 = true then (columbariumlaw7_DictTells.j0 k t363 l3 a4 t382 t408 t417 ((t408.length : Int) != (t417.length : Int))) else (columbariumlaw7_DictTells.j0 k t363 l3 a4 t382 t408 t417 true))) else (columbariumlaw7_DictTells.j0 k t363 l3 a4 t382 t408 t417 true)) else (columbariumlaw7_DictTells.j0 k t363 l3 a4 t382 t408 t417 true))) else (columbariumlaw7_DictTells.j0 k t363 l3 a4 t382 t408 t417 true)) else (columbariumlaw7_DictTells.j0 k t363 l3 a4 t382 t408 t417 true))) else (columbariumlaw7_DictTells.j0 k t363 l3 a4 t382 t408 t417 true)) = some r := H
   have A42 := Aside0.mk A420
   clear A420
   by_cases c43 : t420 = true
   ·subst c43
    have H1 : ((columbariumbook_Same_int.f k t379 t385).bind fun t421 => (if t421 = true then (if t394 = t396 then (if (t395 != t397) = true then (columbariumlaw7_DictTells.j0 k t363 l3 a4 t382 t408 t417 true) else (if t398 = t400 then (if t399 = t401 then ((columbariumkeep_Texts.f k t405 t414).bind fun t422 => (if t422 = true then (columbariumlaw7_DictTells.j0 k t363 l3 a4 t382 t408 t417 ((t408.length : Int) != (t417.length : Int))) else (columbariumlaw7_DictTells.j0 k t363 l3 a4 t382 t408 t417 true))) else (columbariumlaw7_DictTells.j0 k t363 l3 a4 t382 t408 t417 true)) else (columbariumlaw7_DictTells.j0 k t363 l3 a4 t382 t408 t417 true))) else (columbariumlaw7_DictTells.j0 k t363 l3 a4 t382 t408 t417 true)) else (columbariumlaw7_DictTells.j0 k t363 l3 a4 t382 t408 t417 true))) = some r := by rw [if_pos rfl] at H; exact H
    clear H
    have H := H1
    clear H1
    replace H := Option.bind_eq_some_iff.mp H
    obtain ⟨t421, A440, H⟩ := H
    replace H : (if t421 = true then (if t394 = t396 then (if (t395 != t397) = true then (columbariumlaw7_DictTells.j0 k t363 l3 a4 t382 t408 t417 true) else (if t398 = t400 then (if t399 = t401 then ((columbariumkeep_Texts.f k t405 t414).bind fun t422 => (if t422 = true then (columbariumlaw7_DictTells.j0 k t363 l3 a4 t382 t408 t417 ((t408.length : Int) != (t417.length : Int))) else (columbariumlaw7_DictTells.j0 k t363 l3 a4 t382 t408 t417 true))) else (columbariumlaw7_DictTells.j0 k t363 l3 a4 t382 t408 t417 true)) else (columbariumlaw7_DictTells.j0 k t363 l3 a4 t382 t408 t417 true))) else (columbariumlaw7_DictTells.j0 k t363 l3 a4 t382 t408 t417 true)) else (columbariumlaw7_DictTells.j0 k t363 l3 a4 t382 t408 t417 true)) = some r := H
    have A44 := Aside0.mk A440
    clear A440
    by_cases c45 : t421 = true
    ·subst c45
     have H1 : (if t394 = t396 then (if (t395 != t397) = true then (columbariumlaw7_DictTells.j0 k t363 l3 a4 t382 t408 t417 true) else (if t398 = t400 then (if t399 = t401 then ((columbariumkeep_Texts.f k t405 t414).bind fun t422 => (if t422 = true then (columbariumlaw7_DictTells.j0 k t363 l3 a4 t382 t408 t417 ((t408.length : Int) != (t417.length : Int))) else (columbariumlaw7_DictTells.j0 k t363 l3 a4 t382 t408 t417 true))) else (columbariumlaw7_DictTells.j0 k t363 l3 a4 t382 t408 t417 true)) else (columbariumlaw7_DictTells.j0 k t363 l3 a4 t382 t408 t417 true))) else (columbariumlaw7_DictTells.j0 k t363 l3 a4 t382 t408 t417 true)) = some r := by rw [if_pos rfl] at H; exact H
     clear H
     have H := H1
     clear H1
     by_cases c46 : t394 = t396
     ·rw [if_pos c46] at H
      have c46b0 : (t394 == t396) = true := beq_iff_eq.mpr c46
      have c46b1 : (t394 != t396) = false := bne_eq_false_iff_eq.mpr c46
      clear c46
      (first | rw [c46b0] | rw [c46b1] | (simp only [i64_w, i32_w]; rw [c46b0]) | skip)
      by_cases c47 : (t395 != t397) = true
      ·rw [if_pos c47] at H
       have c47b0 : (t395 != t397) = true := c47
       (try (have c47b1 : decide (t395 = t397) = false := by simpa using c47))
       (try (have c47b2 : (t395 == t397) = false := by simpa using c47))
       (try (have c47b3 : ¬ (t395 = t397) := by simpa using c47))
       clear c47
       have H' := Aside0.mk H
       clear H
       obtain ⟨Ao48, co48, eo48⟩ := Kd.V_slice HO378.out
       subst eo48
       go_wp2_with (first | (go_at_call 11; (with_reducible refine (columbariumkeep_Texts.calls k _ _ t376 _ _ t382 true _ ?side1 ?side2 ?side3 ?side4 A42.out).mono ?_); (case side1 => repeat (first | exact (Kd.V_reads' HO378.out).2.2 | (with_reducible refine Kd.C_alloc ?_ _) | (with_reducible refine Kd.C_drewN ?_ _) | (with_reducible refine Kd.C_drew ?_))); (case side2 => exact (Kd.V_reads' HO378.out).2.1); (case side3 => repeat (first | exact (Kd.V_reads' HO384.out).2.2 | (with_reducible refine Kd.C_alloc ?_ _) | (with_reducible refine Kd.C_drewN ?_ _) | (with_reducible refine Kd.C_drew ?_))); (case side4 => exact (Kd.V_reads' HO384.out).2.1); rintro e w' ⟨rfl, ⟨nd, rfl⟩⟩; (try first | exact ⟨rfl, _, World.drewN_drewN _ _ _⟩ | exact ⟨rfl, _, Eq.trans (World.drewN_drewN _ _ _) (congrArg (World.drewN _) (Nat.add_assoc _ _ _))⟩); obtain ⟨Ao49, co49, eo49⟩ := Kd.R_slice HO381.out; subst eo49; obtain ⟨Ao50, co50, eo50⟩ := Kd.R_slice HO387.out; subst eo50) | (go_at_call 24; (with_reducible refine (columbariumbook_Same_int.calls k _ _ t379 _ _ t385 true _ ?side1 ?side2 ?side3 ?side4 A44.out).mono ?_); (case side1 => repeat (first | exact (Kd.R_reads' HO381.out).2.2 | (with_reducible refine Kd.C_alloc ?_ _) | (with_reducible refine Kd.C_drewN ?_ _) | (with_reducible refine Kd.C_drew ?_))); (case side2 => exact (Kd.R_reads' HO381.out).2.1); (case side3 => repeat (first | exact (Kd.R_reads' HO387.out).2.2 | (with_reducible refine Kd.C_alloc ?_ _) | (with_reducible refine Kd.C_drewN ?_ _) | (with_reducible refine Kd.C_drew ?_))); (case side4 => exact (Kd.R_reads' HO387.out).2.1); rintro e w' ⟨rfl, ⟨nd, rfl⟩⟩; (try first | exact ⟨rfl, _, World.drewN_drewN _ _ _⟩ | exact ⟨rfl, _, Eq.trans (World.drewN_drewN _ _ _) (congrArg (World.drewN _) (Nat.add_assoc _ _ _))⟩)))
       repeat (go_quiet (first | (go_at_call 11; (with_reducible refine (columbariumkeep_Texts.calls k _ _ t376 _ _ t382 true _ ?side1 ?side2 ?side3 ?side4 A42.out).mono ?_); (case side1 => repeat (first | exact (Kd.V_reads' HO378.out).2.2 | (with_reducible refine Kd.C_alloc ?_ _) | (with_reducible refine Kd.C_drewN ?_ _) | (with_reducible refine Kd.C_drew ?_))); (case side2 => exact (Kd.V_reads' HO378.out).2.1); (case side3 => repeat (first | exact (Kd.V_reads' HO384.out).2.2 | (with_reducible refine Kd.C_alloc ?_ _) | (with_reducible refine Kd.C_drewN ?_ _) | (with_reducible refine Kd.C_drew ?_))); (case side4 => exact (Kd.V_reads' HO384.out).2.1); rintro e w' ⟨rfl, ⟨nd, rfl⟩⟩; (try first | exact ⟨rfl, _, World.drewN_drewN _ _ _⟩ | exact ⟨rfl, _, Eq.trans (World.drewN_drewN _ _ _) (congrArg (World.drewN _) (Nat.add_assoc _ _ _))⟩); obtain ⟨Ao49, co49, eo49⟩ := Kd.R_slice HO381.out; subst eo49; obtain ⟨Ao50, co50, eo50⟩ := Kd.R_slice HO387.out; subst eo50) | (go_at_call 24; (with_reducible refine (columbariumbook_Same_int.calls k _ _ t379 _ _ t385 true _ ?side1 ?side2 ?side3 ?side4 A44.out).mono ?_); (case side1 => repeat (first | exact (Kd.R_reads' HO381.out).2.2 | (with_reducible refine Kd.C_alloc ?_ _) | (with_reducible refine Kd.C_drewN ?_ _) | (with_reducible refine Kd.C_drew ?_))); (case side2 => exact (Kd.R_reads' HO381.out).2.1); (case side3 => repeat (first | exact (Kd.R_reads' HO387.out).2.2 | (with_reducible refine Kd.C_alloc ?_ _) | (with_reducible refine Kd.C_drewN ?_ _) | (with_reducible refine Kd.C_drew ?_))); (case side4 => exact (Kd.R_reads' HO387.out).2.1); rintro e w' ⟨rfl, ⟨nd, rfl⟩⟩; (try first | exact ⟨rfl, _, World.drewN_drewN _ _ _⟩ | exact ⟨rfl, _, Eq.trans (World.drewN_drewN _ _ _) (congrArg (World.drewN _) (Nat.add_assoc _ _ _))⟩))); try go_wp2_with (first | (go_at_call 11; (with_reducible refine (columbariumkeep_Texts.calls k _ _ t376 _ _ t382 true _ ?side1 ?side2 ?side3 ?side4 A42.out).mono ?_); (case side1 => repeat (first | exact (Kd.V_reads' HO378.out).2.2 | (with_reducible refine Kd.C_alloc ?_ _) | (with_reducible refine Kd.C_drewN ?_ _) | (with_reducible refine Kd.C_drew ?_))); (case side2 => exact (Kd.V_reads' HO378.out).2.1); (case side3 => repeat (first | exact (Kd.V_reads' HO384.out).2.2 | (with_reducible refine Kd.C_alloc ?_ _) | (with_reducible refine Kd.C_drewN ?_ _) | (with_reducible refine Kd.C_drew ?_))); (case side4 => exact (Kd.V_reads' HO384.out).2.1); rintro e w' ⟨rfl, ⟨nd, rfl⟩⟩; (try first | exact ⟨rfl, _, World.drewN_drewN _ _ _⟩ | exact ⟨rfl, _, Eq.trans (World.drewN_drewN _ _ _) (congrArg (World.drewN _) (Nat.add_assoc _ _ _))⟩); obtain ⟨Ao49, co49, eo49⟩ := Kd.R_slice HO381.out; subst eo49; obtain ⟨Ao50, co50, eo50⟩ := Kd.R_slice HO387.out; subst eo50) | (go_at_call 24; (with_reducible refine (columbariumbook_Same_int.calls k _ _ t379 _ _ t385 true _ ?side1 ?side2 ?side3 ?side4 A44.out).mono ?_); (case side1 => repeat (first | exact (Kd.R_reads' HO381.out).2.2 | (with_reducible refine Kd.C_alloc ?_ _) | (with_reducible refine Kd.C_drewN ?_ _) | (with_reducible refine Kd.C_drew ?_))); (case side2 => exact (Kd.R_reads' HO381.out).2.1); (case side3 => repeat (first | exact (Kd.R_reads' HO387.out).2.2 | (with_reducible refine Kd.C_alloc ?_ _) | (with_reducible refine Kd.C_drewN ?_ _) | (with_reducible refine Kd.C_drew ?_))); (case side4 => exact (Kd.R_reads' HO387.out).2.1); rintro e w' ⟨rfl, ⟨nd, rfl⟩⟩; (try first | exact ⟨rfl, _, World.drewN_drewN _ _ _⟩ | exact ⟨rfl, _, Eq.trans (World.drewN_drewN _ _ _) (congrArg (World.drewN _) (Nat.add_assoc _ _ _))⟩))))
       go_meet
       case rel => exact ⟨_, (true), (by first | rfl | (simp; done) | (simp [*]; done)), H', ⟨by first | omega | exact Nat.le_refl _⟩, ⟨by (with_reducible repeat (first | apply Kd.R_alloc | apply Kd.R_drewN | apply Kd.R_drew)); exact Kd.R_mono HO365.out (fun _ hk => hk.1.1.1.1)⟩, ⟨by (with_reducible repeat (first | apply Kd.V_alloc | apply Kd.V_drewN | apply Kd.V_drew)); exact Kd.V_mono HO3.out (fun _ hk => ⟨hk.1.1.1.1.1.1.1.1.1.1.1, ⟨hk.1.1.1.1.1.1.1.1.1.1.2, ⟨hk.1.1.2, hk.2⟩⟩⟩)⟩, ⟨by (with_reducible repeat (first | apply Kd.V_alloc | apply Kd.V_drewN | apply Kd.V_drew)); exact Kd.V_mono HO384.out (fun _ hk => ⟨hk.1.1.1.1.1.1, ⟨hk.1.1.1.1.1.2.2.1, ⟨hk.1.1.2, hk.2⟩⟩⟩)⟩, ⟨by (with_reducible repeat (first | apply Kd.N_alloc | apply Kd.N_drewN | apply Kd.N_drew)); exact Kd.N_mono HO410.out (fun _ hk => ⟨hk.1.1.1, ⟨hk.1.1.2.1, hk.2⟩⟩)⟩, ⟨by (with_reducible repeat (first | apply Kd.N_alloc | apply Kd.N_drewN | apply Kd.N_drew)); exact Kd.N_mono HO419.out (fun _ hk => ⟨hk.1, ⟨hk.2.1, hk.2.2.2.2.2.2.2.2.2.1⟩⟩)⟩, ⟨mB HB.out⟩⟩
      ·rw [if_neg c47] at H
       have c47b0 : (t395 != t397) = false := by simpa using c47
       (try (have c47b1 : decide (t395 = t397) = true := by simpa using c47))
       (try (have c47b2 : (t395 == t397) = true := by simpa using c47))
       clear c47
       by_cases c51 : t398 = t400
       ·rw [if_pos c51] at H
        have c51b0 : (t398 == t400) = true := beq_iff_eq.mpr c51
        have c51b1 : (t398 != t400) = false := bne_eq_false_iff_eq.mpr c51
        clear c51
        by_cases c52 : t399 = t401
        ·rw [if_pos c52] at H
         have c52b0 : (t399 == t401) = true := beq_iff_eq.mpr c52
         have c52b1 : (t399 != t401) = false := bne_eq_false_iff_eq.mpr c52
         clear c52
         replace H := Option.bind_eq_some_iff.mp H
         obtain ⟨t422, A530, H⟩ := H
         replace H : (if t422 = true then (columbariumlaw7_DictTells.j0 k t363 l3 a4 t382 t408 t417 ((t408.length : Int) != (t417.length : Int))) else (columbariumlaw7_DictTells.j0 k t363 l3 a4 t382 t408 t417 true)) = some r := H
         have A53 := Aside0.mk A530
         clear A530
         by_cases c54 : t422 = true
         ·subst c54
          have H1 : (columbariumlaw7_DictTells.j0 k t363 l3 a4 t382 t408 t417 ((t408.length : Int) != (t417.length : Int))) = some r := by rw [if_pos rfl] at H; exact H
          clear H
          have H := H1
          clear H1
          have H' := Aside0.mk H
          clear H
          obtain ⟨Ao55, co55, eo55⟩ := Kd.V_slice HO378.out
          subst eo55
          go_wp2_with (first | (go_at_call 11; (with_reducible refine (columbariumkeep_Texts.calls k _ _ t376 _ _ t382 true _ ?side1 ?side2 ?side3 ?side4 A42.out).mono ?_); (case side1 => repeat (first | exact (Kd.V_reads' HO378.out).2.2 | (with_reducible refine Kd.C_alloc ?_ _) | (with_reducible refine Kd.C_drewN ?_ _) | (with_reducible refine Kd.C_drew ?_))); (case side2 => exact (Kd.V_reads' HO378.out).2.1); (case side3 => repeat (first | exact (Kd.V_reads' HO384.out).2.2 | (with_reducible refine Kd.C_alloc ?_ _) | (with_reducible refine Kd.C_drewN ?_ _) | (with_reducible refine Kd.C_drew ?_))); (case side4 => exact (Kd.V_reads' HO384.out).2.1); rintro e w' ⟨rfl, ⟨nd, rfl⟩⟩; (try first | exact ⟨rfl, _, World.drewN_drewN _ _ _⟩ | exact ⟨rfl, _, Eq.trans (World.drewN_drewN _ _ _) (congrArg (World.drewN _) (Nat.add_assoc _ _ _))⟩); obtain ⟨Ao56, co56, eo56⟩ := Kd.R_slice HO381.out; subst eo56; obtain ⟨Ao57, co57, eo57⟩ := Kd.R_slice HO387.out; subst eo57) | (go_at_call 24; (with_reducible refine (columbariumbook_Same_int.calls k _ _ t379 _ _ t385 true _ ?side1 ?side2 ?side3 ?side4 A44.out).mono ?_); (case side1 => repeat (first | exact (Kd.R_reads' HO381.out).2.2 | (with_reducible refine Kd.C_alloc ?_ _) | (with_reducible refine Kd.C_drewN ?_ _) | (with_reducible refine Kd.C_drew ?_))); (case side2 => exact (Kd.R_reads' HO381.out).2.1); (case side3 => repeat (first | exact (Kd.R_reads' HO387.out).2.2 | (with_reducible refine Kd.C_alloc ?_ _) | (with_reducible refine Kd.C_drewN ?_ _) | (with_reducible refine Kd.C_drew ?_))); (case side4 => exact (Kd.R_reads' HO387.out).2.1); rintro e w' ⟨rfl, ⟨nd, rfl⟩⟩; (try first | exact ⟨rfl, _, World.drewN_drewN _ _ _⟩ | exact ⟨rfl, _, Eq.trans (World.drewN_drewN _ _ _) (congrArg (World.drewN _) (Nat.add_assoc _ _ _))⟩); obtain ⟨Ao58, co58, eo58⟩ := Kd.V_slice HO407.out; subst eo58; obtain ⟨Ao59, co59, eo59⟩ := Kd.V_slice HO416.out; subst eo59) | (go_at_call 11; (with_reducible refine (columbariumkeep_Texts.calls k _ _ t405 _ _ t414 true _ ?side1 ?side2 ?side3 ?side4 A53.out).mono ?_); (case side1 => repeat (first | exact (Kd.V_reads' HO407.out).2.2 | (with_reducible refine Kd.C_alloc ?_ _) | (with_reducible refine Kd.C_drewN ?_ _) | (with_reducible refine Kd.C_drew ?_))); (case side2 => exact (Kd.V_reads' HO407.out).2.1); (case side3 => repeat (first | exact (Kd.V_reads' HO416.out).2.2 | (with_reducible refine Kd.C_alloc ?_ _) | (with_reducible refine Kd.C_drewN ?_ _) | (with_reducible refine Kd.C_drew ?_))); (case side4 => exact (Kd.V_reads' HO416.out).2.1); rintro e w' ⟨rfl, ⟨nd, rfl⟩⟩; (try first | exact ⟨rfl, _, World.drewN_drewN _ _ _⟩ | exact ⟨rfl, _, Eq.trans (World.drewN_drewN _ _ _) (congrArg (World.drewN _) (Nat.add_assoc _ _ _))⟩); obtain ⟨Ao60, co60, eo60⟩ := Kd.N_slice HO410.out; subst eo60; obtain ⟨Ao61, co61, eo61⟩ := Kd.N_slice HO419.out; subst eo61))
          repeat (go_quiet (first | (go_at_call 11; (with_reducible refine (columbariumkeep_Texts.calls k _ _ t376 _ _ t382 true _ ?side1 ?side2 ?side3 ?side4 A42.out).mono ?_); (case side1 => repeat (first | exact (Kd.V_reads' HO378.out).2.2 | (with_reducible refine Kd.C_alloc ?_ _) | (with_reducible refine Kd.C_drewN ?_ _) | (with_reducible refine Kd.C_drew ?_))); (case side2 => exact (Kd.V_reads' HO378.out).2.1); (case side3 => repeat (first | exact (Kd.V_reads' HO384.out).2.2 | (with_reducible refine Kd.C_alloc ?_ _) | (with_reducible refine Kd.C_drewN ?_ _) | (with_reducible refine Kd.C_drew ?_))); (case side4 => exact (Kd.V_reads' HO384.out).2.1); rintro e w' ⟨rfl, ⟨nd, rfl⟩⟩; (try first | exact ⟨rfl, _, World.drewN_drewN _ _ _⟩ | exact ⟨rfl, _, Eq.trans (World.drewN_drewN _ _ _) (congrArg (World.drewN _) (Nat.add_assoc _ _ _))⟩); obtain ⟨Ao56, co56, eo56⟩ := Kd.R_slice HO381.out; subst eo56; obtain ⟨Ao57, co57, eo57⟩ := Kd.R_slice HO387.out; subst eo57) | (go_at_call 24; (with_reducible refine (columbariumbook_Same_int.calls k _ _ t379 _ _ t385 true _ ?side1 ?side2 ?side3 ?side4 A44.out).mono ?_); (case side1 => repeat (first | exact (Kd.R_reads' HO381.out).2.2 | (with_reducible refine Kd.C_alloc ?_ _) | (with_reducible refine Kd.C_drewN ?_ _) | (with_reducible refine Kd.C_drew ?_))); (case side2 => exact (Kd.R_reads' HO381.out).2.1); (case side3 => repeat (first | exact (Kd.R_reads' HO387.out).2.2 | (with_reducible refine Kd.C_alloc ?_ _) | (with_reducible refine Kd.C_drewN ?_ _) | (with_reducible refine Kd.C_drew ?_))); (case side4 => exact (Kd.R_reads' HO387.out).2.1); rintro e w' ⟨rfl, ⟨nd, rfl⟩⟩; (try first | exact ⟨rfl, _, World.drewN_drewN _ _ _⟩ | exact ⟨rfl, _, Eq.trans (World.drewN_drewN _ _ _) (congrArg (World.drewN _) (Nat.add_assoc _ _ _))⟩); obtain ⟨Ao58, co58, eo58⟩ := Kd.V_slice HO407.out; subst eo58; obtain ⟨Ao59, co59, eo59⟩ := Kd.V_slice HO416.out; subst eo59) | (go_at_call 11; (with_reducible refine (columbariumkeep_Texts.calls k _ _ t405 _ _ t414 true _ ?side1 ?side2 ?side3 ?side4 A53.out).mono ?_); (case side1 => repeat (first | exact (Kd.V_reads' HO407.out).2.2 | (with_reducible refine Kd.C_alloc ?_ _) | (with_reducible refine Kd.C_drewN ?_ _) | (with_reducible refine Kd.C_drew ?_))); (case side2 => exact (Kd.V_reads' HO407.out).2.1); (case side3 => repeat (first | exact (Kd.V_reads' HO416.out).2.2 | (with_reducible refine Kd.C_alloc ?_ _) | (with_reducible refine Kd.C_drewN ?_ _) | (with_reducible refine Kd.C_drew ?_))); (case side4 => exact (Kd.V_reads' HO416.out).2.1); rintro e w' ⟨rfl, ⟨nd, rfl⟩⟩; (try first | exact ⟨rfl, _, World.drewN_drewN _ _ _⟩ | exact ⟨rfl, _, Eq.trans (World.drewN_drewN _ _ _) (congrArg (World.drewN _) (Nat.add_assoc _ _ _))⟩); obtain ⟨Ao60, co60, eo60⟩ := Kd.N_slice HO410.out; subst eo60; obtain ⟨Ao61, co61, eo61⟩ := Kd.N_slice HO419.out; subst eo61)); try go_wp2_with (first | (go_at_call 11; (with_reducible refine (columbariumkeep_Texts.calls k _ _ t376 _ _ t382 true _ ?side1 ?side2 ?side3 ?side4 A42.out).mono ?_); (case side1 => repeat (first | exact (Kd.V_reads' HO378.out).2.2 | (with_reducible refine Kd.C_alloc ?_ _) | (with_reducible refine Kd.C_drewN ?_ _) | (with_reducible refine Kd.C_drew ?_))); (case side2 => exact (Kd.V_reads' HO378.out).2.1); (case side3 => repeat (first | exact (Kd.V_reads' HO384.out).2.2 | (with_reducible refine Kd.C_alloc ?_ _) | (with_reducible refine Kd.C_drewN ?_ _) | (with_reducible refine Kd.C_drew ?_))); (case side4 => exact (Kd.V_reads' HO384.out).2.1); rintro e w' ⟨rfl, ⟨nd, rfl⟩⟩; (try first | exact ⟨rfl, _, World.drewN_drewN _ _ _⟩ | exact ⟨rfl, _, Eq.trans (World.drewN_drewN _ _ _) (congrArg (World.drewN _) (Nat.add_assoc _ _ _))⟩); obtain ⟨Ao56, co56, eo56⟩ := Kd.R_slice HO381.out; subst eo56; obtain ⟨Ao57, co57, eo57⟩ := Kd.R_slice HO387.out; subst eo57) | (go_at_call 24; (with_reducible refine (columbariumbook_Same_int.calls k _ _ t379 _ _ t385 true _ ?side1 ?side2 ?side3 ?side4 A44.out).mono ?_); (case side1 => repeat (first | exact (Kd.R_reads' HO381.out).2.2 | (with_reducible refine Kd.C_alloc ?_ _) | (with_reducible refine Kd.C_drewN ?_ _) | (with_reducible refine Kd.C_drew ?_))); (case side2 => exact (Kd.R_reads' HO381.out).2.1); (case side3 => repeat (first | exact (Kd.R_reads' HO387.out).2.2 | (with_reducible refine Kd.C_alloc ?_ _) | (with_reducible refine Kd.C_drewN ?_ _) | (with_reducible refine Kd.C_drew ?_))); (case side4 => exact (Kd.R_reads' HO387.out).2.1); rintro e w' ⟨rfl, ⟨nd, rfl⟩⟩; (try first | exact ⟨rfl, _, World.drewN_drewN _ _ _⟩ | exact ⟨rfl, _, Eq.trans (World.drewN_drewN _ _ _) (congrArg (World.drewN _) (Nat.add_assoc _ _ _))⟩); obtain ⟨Ao58, co58, eo58⟩ := Kd.V_slice HO407.out; subst eo58; obtain ⟨Ao59, co59, eo59⟩ := Kd.V_slice HO416.out; subst eo59) | (go_at_call 11; (with_reducible refine (columbariumkeep_Texts.calls k _ _ t405 _ _ t414 true _ ?side1 ?side2 ?side3 ?side4 A53.out).mono ?_); (case side1 => repeat (first | exact (Kd.V_reads' HO407.out).2.2 | (with_reducible refine Kd.C_alloc ?_ _) | (with_reducible refine Kd.C_drewN ?_ _) | (with_reducible refine Kd.C_drew ?_))); (case side2 => exact (Kd.V_reads' HO407.out).2.1); (case side3 => repeat (first | exact (Kd.V_reads' HO416.out).2.2 | (with_reducible refine Kd.C_alloc ?_ _) | (with_reducible refine Kd.C_drewN ?_ _) | (with_reducible refine Kd.C_drew ?_))); (case side4 => exact (Kd.V_reads' HO416.out).2.1); rintro e w' ⟨rfl, ⟨nd, rfl⟩⟩; (try first | exact ⟨rfl, _, World.drewN_drewN _ _ _⟩ | exact ⟨rfl, _, Eq.trans (World.drewN_drewN _ _ _) (congrArg (World.drewN _) (Nat.add_assoc _ _ _))⟩); obtain ⟨Ao60, co60, eo60⟩ := Kd.N_slice HO410.out; subst eo60; obtain ⟨Ao61, co61, eo61⟩ := Kd.N_slice HO419.out; subst eo61)))
          go_meet
          case rel => exact ⟨_, (((t408.length : Int) != (t417.length : Int))), (by first | rfl | (simp; done) | (simp [*]; done)), H', ⟨by first | omega | exact Nat.le_refl _⟩, ⟨by (with_reducible repeat (first | apply Kd.R_alloc | apply Kd.R_drewN | apply Kd.R_drew)); exact Kd.R_mono HO365.out (fun _ hk => hk.1.1.1.1)⟩, ⟨by (with_reducible repeat (first | apply Kd.V_alloc | apply Kd.V_drewN | apply Kd.V_drew)); exact Kd.V_mono HO3.out (fun _ hk => ⟨hk.1.1.1.1.1.1.1.1.1.1.1, ⟨hk.1.1.1.1.1.1.1.1.1.1.2, ⟨hk.1.1.2, hk.2⟩⟩⟩)⟩, ⟨by (with_reducible repeat (first | apply Kd.V_alloc | apply Kd.V_drewN | apply Kd.V_drew)); exact Kd.V_mono HO384.out (fun _ hk => ⟨hk.1.1.1.1.1.1, ⟨hk.1.1.1.1.1.2.2.1, ⟨hk.1.1.2, hk.2⟩⟩⟩)⟩, ⟨by (with_reducible repeat (first | apply Kd.N_alloc | apply Kd.N_drewN | apply Kd.N_drew)); exact Kd.N_mono HO410.out (fun _ hk => ⟨hk.1.1.1, ⟨hk.1.1.2.1, hk.2⟩⟩)⟩, ⟨by (with_reducible repeat (first | apply Kd.N_alloc | apply Kd.N_drewN | apply Kd.N_drew)); exact Kd.N_mono HO419.out (fun _ hk => ⟨hk.1, ⟨hk.2.1, hk.2.2.2.2.2.2.2.2.2.1⟩⟩)⟩, ⟨mB HB.out⟩⟩
         ·replace c54 := Bool.eq_false_iff.mpr c54
          subst c54
          have H1 : (columbariumlaw7_DictTells.j0 k t363 l3 a4 t382 t408 t417 true) = some r := by rw [if_neg (show ¬ (false = true) by decide)] at H; exact H
          clear H
          have H := H1
          clear H1
          have H' := Aside0.mk H
          clear H
          obtain ⟨Ao62, co62, eo62⟩ := Kd.V_slice HO378.out
          subst eo62
          go_wp2_with (first | (go_at_call 11; (with_reducible refine (columbariumkeep_Texts.calls k _ _ t376 _ _ t382 true _ ?side1 ?side2 ?side3 ?side4 A42.out).mono ?_); (case side1 => repeat (first | exact (Kd.V_reads' HO378.out).2.2 | (with_reducible refine Kd.C_alloc ?_ _) | (with_reducible refine Kd.C_drewN ?_ _) | (with_reducible refine Kd.C_drew ?_))); (case side2 => exact (Kd.V_reads' HO378.out).2.1); (case side3 => repeat (first | exact (Kd.V_reads' HO384.out).2.2 | (with_reducible refine Kd.C_alloc ?_ _) | (with_reducible refine Kd.C_drewN ?_ _) | (with_reducible refine Kd.C_drew ?_))); (case side4 => exact (Kd.V_reads' HO384.out).2.1); rintro e w' ⟨rfl, ⟨nd, rfl⟩⟩; (try first | exact ⟨rfl, _, World.drewN_drewN _ _ _⟩ | exact ⟨rfl, _, Eq.trans (World.drewN_drewN _ _ _) (congrArg (World.drewN _) (Nat.add_assoc _ _ _))⟩); obtain ⟨Ao63, co63, eo63⟩ := Kd.R_slice HO381.out; subst eo63; obtain ⟨Ao64, co64, eo64⟩ := Kd.R_slice HO387.out; subst eo64) | (go_at_call 24; (with_reducible refine (columbariumbook_Same_int.calls k _ _ t379 _ _ t385 true _ ?side1 ?side2 ?side3 ?side4 A44.out).mono ?_); (case side1 => repeat (first | exact (Kd.R_reads' HO381.out).2.2 | (with_reducible refine Kd.C_alloc ?_ _) | (with_reducible refine Kd.C_drewN ?_ _) | (with_reducible refine Kd.C_drew ?_))); (case side2 => exact (Kd.R_reads' HO381.out).2.1); (case side3 => repeat (first | exact (Kd.R_reads' HO387.out).2.2 | (with_reducible refine Kd.C_alloc ?_ _) | (with_reducible refine Kd.C_drewN ?_ _) | (with_reducible refine Kd.C_drew ?_))); (case side4 => exact (Kd.R_reads' HO387.out).2.1); rintro e w' ⟨rfl, ⟨nd, rfl⟩⟩; (try first | exact ⟨rfl, _, World.drewN_drewN _ _ _⟩ | exact ⟨rfl, _, Eq.trans (World.drewN_drewN _ _ _) (congrArg (World.drewN _) (Nat.add_assoc _ _ _))⟩); obtain ⟨Ao65, co65, eo65⟩ := Kd.V_slice HO407.out; subst eo65; obtain ⟨Ao66, co66, eo66⟩ := Kd.V_slice HO416.out; subst eo66) | (go_at_call 11; (with_reducible refine (columbariumkeep_Texts.calls k _ _ t405 _ _ t414 false _ ?side1 ?side2 ?side3 ?side4 A53.out).mono ?_); (case side1 => repeat (first | exact (Kd.V_reads' HO407.out).2.2 | (with_reducible refine Kd.C_alloc ?_ _) | (with_reducible refine Kd.C_drewN ?_ _) | (with_reducible refine Kd.C_drew ?_))); (case side2 => exact (Kd.V_reads' HO407.out).2.1); (case side3 => repeat (first | exact (Kd.V_reads' HO416.out).2.2 | (with_reducible refine Kd.C_alloc ?_ _) | (with_reducible refine Kd.C_drewN ?_ _) | (with_reducible refine Kd.C_drew ?_))); (case side4 => exact (Kd.V_reads' HO416.out).2.1); rintro e w' ⟨rfl, ⟨nd, rfl⟩⟩; (try first | exact ⟨rfl, _, World.drewN_drewN _ _ _⟩ | exact ⟨rfl, _, Eq.trans (World.drewN_drewN _ _ _) (congrArg (World.drewN _) (Nat.add_assoc _ _ _))⟩)))
          repeat (go_quiet (first | (go_at_call 11; (with_reducible refine (columbariumkeep_Texts.calls k _ _ t376 _ _ t382 true _ ?side1 ?side2 ?side3 ?side4 A42.out).mono ?_); (case side1 => repeat (first | exact (Kd.V_reads' HO378.out).2.2 | (with_reducible refine Kd.C_alloc ?_ _) | (with_reducible refine Kd.C_drewN ?_ _) | (with_reducible refine Kd.C_drew ?_))); (case side2 => exact (Kd.V_reads' HO378.out).2.1); (case side3 => repeat (first | exact (Kd.V_reads' HO384.out).2.2 | (with_reducible refine Kd.C_alloc ?_ _) | (with_reducible refine Kd.C_drewN ?_ _) | (with_reducible refine Kd.C_drew ?_))); (case side4 => exact (Kd.V_reads' HO384.out).2.1); rintro e w' ⟨rfl, ⟨nd, rfl⟩⟩; (try first | exact ⟨rfl, _, World.drewN_drewN _ _ _⟩ | exact ⟨rfl, _, Eq.trans (World.drewN_drewN _ _ _) (congrArg (World.drewN _) (Nat.add_assoc _ _ _))⟩); obtain ⟨Ao63, co63, eo63⟩ := Kd.R_slice HO381.out; subst eo63; obtain ⟨Ao64, co64, eo64⟩ := Kd.R_slice HO387.out; subst eo64) | (go_at_call 24; (with_reducible refine (columbariumbook_Same_int.calls k _ _ t379 _ _ t385 true _ ?side1 ?side2 ?side3 ?side4 A44.out).mono ?_); (case side1 => repeat (first | exact (Kd.R_reads' HO381.out).2.2 | (with_reducible refine Kd.C_alloc ?_ _) | (with_reducible refine Kd.C_drewN ?_ _) | (with_reducible refine Kd.C_drew ?_))); (case side2 => exact (Kd.R_reads' HO381.out).2.1); (case side3 => repeat (first | exact (Kd.R_reads' HO387.out).2.2 | (with_reducible refine Kd.C_alloc ?_ _) | (with_reducible refine Kd.C_drewN ?_ _) | (with_reducible refine Kd.C_drew ?_))); (case side4 => exact (Kd.R_reads' HO387.out).2.1); rintro e w' ⟨rfl, ⟨nd, rfl⟩⟩; (try first | exact ⟨rfl, _, World.drewN_drewN _ _ _⟩ | exact ⟨rfl, _, Eq.trans (World.drewN_drewN _ _ _) (congrArg (World.drewN _) (Nat.add_assoc _ _ _))⟩); obtain ⟨Ao65, co65, eo65⟩ := Kd.V_slice HO407.out; subst eo65; obtain ⟨Ao66, co66, eo66⟩ := Kd.V_slice HO416.out; subst eo66) | (go_at_call 11; (with_reducible refine (columbariumkeep_Texts.calls k _ _ t405 _ _ t414 false _ ?side1 ?side2 ?side3 ?side4 A53.out).mono ?_); (case side1 => repeat (first | exact (Kd.V_reads' HO407.out).2.2 | (with_reducible refine Kd.C_alloc ?_ _) | (with_reducible refine Kd.C_drewN ?_ _) | (with_reducible refine Kd.C_drew ?_))); (case side2 => exact (Kd.V_reads' HO407.out).2.1); (case side3 => repeat (first | exact (Kd.V_reads' HO416.out).2.2 | (with_reducible refine Kd.C_alloc ?_ _) | (with_reducible refine Kd.C_drewN ?_ _) | (with_reducible refine Kd.C_drew ?_))); (case side4 => exact (Kd.V_reads' HO416.out).2.1); rintro e w' ⟨rfl, ⟨nd, rfl⟩⟩; (try first | exact ⟨rfl, _, World.drewN_drewN _ _ _⟩ | exact ⟨rfl, _, Eq.trans (World.drewN_drewN _ _ _) (congrArg (World.drewN _) (Nat.add_assoc _ _ _))⟩))); try go_wp2_with (first | (go_at_call 11; (with_reducible refine (columbariumkeep_Texts.calls k _ _ t376 _ _ t382 true _ ?side1 ?side2 ?side3 ?side4 A42.out).mono ?_); (case side1 => repeat (first | exact (Kd.V_reads' HO378.out).2.2 | (with_reducible refine Kd.C_alloc ?_ _) | (with_reducible refine Kd.C_drewN ?_ _) | (with_reducible refine Kd.C_drew ?_))); (case side2 => exact (Kd.V_reads' HO378.out).2.1); (case side3 => repeat (first | exact (Kd.V_reads' HO384.out).2.2 | (with_reducible refine Kd.C_alloc ?_ _) | (with_reducible refine Kd.C_drewN ?_ _) | (with_reducible refine Kd.C_drew ?_))); (case side4 => exact (Kd.V_reads' HO384.out).2.1); rintro e w' ⟨rfl, ⟨nd, rfl⟩⟩; (try first | exact ⟨rfl, _, World.drewN_drewN _ _ _⟩ | exact ⟨rfl, _, Eq.trans (World.drewN_drewN _ _ _) (congrArg (World.drewN _) (Nat.add_assoc _ _ _))⟩); obtain ⟨Ao63, co63, eo63⟩ := Kd.R_slice HO381.out; subst eo63; obtain ⟨Ao64, co64, eo64⟩ := Kd.R_slice HO387.out; subst eo64) | (go_at_call 24; (with_reducible refine (columbariumbook_Same_int.calls k _ _ t379 _ _ t385 true _ ?side1 ?side2 ?side3 ?side4 A44.out).mono ?_); (case side1 => repeat (first | exact (Kd.R_reads' HO381.out).2.2 | (with_reducible refine Kd.C_alloc ?_ _) | (with_reducible refine Kd.C_drewN ?_ _) | (with_reducible refine Kd.C_drew ?_))); (case side2 => exact (Kd.R_reads' HO381.out).2.1); (case side3 => repeat (first | exact (Kd.R_reads' HO387.out).2.2 | (with_reducible refine Kd.C_alloc ?_ _) | (with_reducible refine Kd.C_drewN ?_ _) | (with_reducible refine Kd.C_drew ?_))); (case side4 => exact (Kd.R_reads' HO387.out).2.1); rintro e w' ⟨rfl, ⟨nd, rfl⟩⟩; (try first | exact ⟨rfl, _, World.drewN_drewN _ _ _⟩ | exact ⟨rfl, _, Eq.trans (World.drewN_drewN _ _ _) (congrArg (World.drewN _) (Nat.add_assoc _ _ _))⟩); obtain ⟨Ao65, co65, eo65⟩ := Kd.V_slice HO407.out; subst eo65; obtain ⟨Ao66, co66, eo66⟩ := Kd.V_slice HO416.out; subst eo66) | (go_at_call 11; (with_reducible refine (columbariumkeep_Texts.calls k _ _ t405 _ _ t414 false _ ?side1 ?side2 ?side3 ?side4 A53.out).mono ?_); (case side1 => repeat (first | exact (Kd.V_reads' HO407.out).2.2 | (with_reducible refine Kd.C_alloc ?_ _) | (with_reducible refine Kd.C_drewN ?_ _) | (with_reducible refine Kd.C_drew ?_))); (case side2 => exact (Kd.V_reads' HO407.out).2.1); (case side3 => repeat (first | exact (Kd.V_reads' HO416.out).2.2 | (with_reducible refine Kd.C_alloc ?_ _) | (with_reducible refine Kd.C_drewN ?_ _) | (with_reducible refine Kd.C_drew ?_))); (case side4 => exact (Kd.V_reads' HO416.out).2.1); rintro e w' ⟨rfl, ⟨nd, rfl⟩⟩; (try first | exact ⟨rfl, _, World.drewN_drewN _ _ _⟩ | exact ⟨rfl, _, Eq.trans (World.drewN_drewN _ _ _) (congrArg (World.drewN _) (Nat.add_assoc _ _ _))⟩))))
          go_meet
          case rel => exact ⟨_, (true), (by first | rfl | (simp; done) | (simp [*]; done)), H', ⟨by first | omega | exact Nat.le_refl _⟩, ⟨by (with_reducible repeat (first | apply Kd.R_alloc | apply Kd.R_drewN | apply Kd.R_drew)); exact Kd.R_mono HO365.out (fun _ hk => hk.1.1.1.1)⟩, ⟨by (with_reducible repeat (first | apply Kd.V_alloc | apply Kd.V_drewN | apply Kd.V_drew)); exact Kd.V_mono HO3.out (fun _ hk => ⟨hk.1.1.1.1.1.1.1.1.1.1.1, ⟨hk.1.1.1.1.1.1.1.1.1.1.2, ⟨hk.1.1.2, hk.2⟩⟩⟩)⟩, ⟨by (with_reducible repeat (first | apply Kd.V_alloc | apply Kd.V_drewN | apply Kd.V_drew)); exact Kd.V_mono HO384.out (fun _ hk => ⟨hk.1.1.1.1.1.1, ⟨hk.1.1.1.1.1.2.2.1, ⟨hk.1.1.2, hk.2⟩⟩⟩)⟩, ⟨by (with_reducible repeat (first | apply Kd.N_alloc | apply Kd.N_drewN | apply Kd.N_drew)); exact Kd.N_mono HO410.out (fun _ hk => ⟨hk.1.1.1, ⟨hk.1.1.2.1, hk.2⟩⟩)⟩, ⟨by (with_reducible repeat (first | apply Kd.N_alloc | apply Kd.N_drewN | apply Kd.N_drew)); exact Kd.N_mono HO419.out (fun _ hk => ⟨hk.1, ⟨hk.2.1, hk.2.2.2.2.2.2.2.2.2.1⟩⟩)⟩, ⟨mB HB.out⟩⟩
        ·rw [if_neg c52] at H
         have c52b0 : (t399 == t401) = false := beq_eq_false_iff_ne.mpr c52
         have c52b1 : (t399 != t401) = true := bne_iff_ne.mpr c52
         have H' := Aside0.mk H
         clear H
         obtain ⟨Ao67, co67, eo67⟩ := Kd.V_slice HO378.out
         subst eo67
         go_wp2_with (first | (go_at_call 11; (with_reducible refine (columbariumkeep_Texts.calls k _ _ t376 _ _ t382 true _ ?side1 ?side2 ?side3 ?side4 A42.out).mono ?_); (case side1 => repeat (first | exact (Kd.V_reads' HO378.out).2.2 | (with_reducible refine Kd.C_alloc ?_ _) | (with_reducible refine Kd.C_drewN ?_ _) | (with_reducible refine Kd.C_drew ?_))); (case side2 => exact (Kd.V_reads' HO378.out).2.1); (case side3 => repeat (first | exact (Kd.V_reads' HO384.out).2.2 | (with_reducible refine Kd.C_alloc ?_ _) | (with_reducible refine Kd.C_drewN ?_ _) | (with_reducible refine Kd.C_drew ?_))); (case side4 => exact (Kd.V_reads' HO384.out).2.1); rintro e w' ⟨rfl, ⟨nd, rfl⟩⟩; (try first | exact ⟨rfl, _, World.drewN_drewN _ _ _⟩ | exact ⟨rfl, _, Eq.trans (World.drewN_drewN _ _ _) (congrArg (World.drewN _) (Nat.add_assoc _ _ _))⟩); obtain ⟨Ao68, co68, eo68⟩ := Kd.R_slice HO381.out; subst eo68; obtain ⟨Ao69, co69, eo69⟩ := Kd.R_slice HO387.out; subst eo69) | (go_at_call 24; (with_reducible refine (columbariumbook_Same_int.calls k _ _ t379 _ _ t385 true _ ?side1 ?side2 ?side3 ?side4 A44.out).mono ?_); (case side1 => repeat (first | exact (Kd.R_reads' HO381.out).2.2 | (with_reducible refine Kd.C_alloc ?_ _) | (with_reducible refine Kd.C_drewN ?_ _) | (with_reducible refine Kd.C_drew ?_))); (case side2 => exact (Kd.R_reads' HO381.out).2.1); (case side3 => repeat (first | exact (Kd.R_reads' HO387.out).2.2 | (with_reducible refine Kd.C_alloc ?_ _) | (with_reducible refine Kd.C_drewN ?_ _) | (with_reducible refine Kd.C_drew ?_))); (case side4 => exact (Kd.R_reads' HO387.out).2.1); rintro e w' ⟨rfl, ⟨nd, rfl⟩⟩; (try first | exact ⟨rfl, _, World.drewN_drewN _ _ _⟩ | exact ⟨rfl, _, Eq.trans (World.drewN_drewN _ _ _) (congrArg (World.drewN _) (Nat.add_assoc _ _ _))⟩)))
         repeat (go_quiet (first | (go_at_call 11; (with_reducible refine (columbariumkeep_Texts.calls k _ _ t376 _ _ t382 true _ ?side1 ?side2 ?side3 ?side4 A42.out).mono ?_); (case side1 => repeat (first | exact (Kd.V_reads' HO378.out).2.2 | (with_reducible refine Kd.C_alloc ?_ _) | (with_reducible refine Kd.C_drewN ?_ _) | (with_reducible refine Kd.C_drew ?_))); (case side2 => exact (Kd.V_reads' HO378.out).2.1); (case side3 => repeat (first | exact (Kd.V_reads' HO384.out).2.2 | (with_reducible refine Kd.C_alloc ?_ _) | (with_reducible refine Kd.C_drewN ?_ _) | (with_reducible refine Kd.C_drew ?_))); (case side4 => exact (Kd.V_reads' HO384.out).2.1); rintro e w' ⟨rfl, ⟨nd, rfl⟩⟩; (try first | exact ⟨rfl, _, World.drewN_drewN _ _ _⟩ | exact ⟨rfl, _, Eq.trans (World.drewN_drewN _ _ _) (congrArg (World.drewN _) (Nat.add_assoc _ _ _))⟩); obtain ⟨Ao68, co68, eo68⟩ := Kd.R_slice HO381.out; subst eo68; obtain ⟨Ao69, co69, eo69⟩ := Kd.R_slice HO387.out; subst eo69) | (go_at_call 24; (with_reducible refine (columbariumbook_Same_int.calls k _ _ t379 _ _ t385 true _ ?side1 ?side2 ?side3 ?side4 A44.out).mono ?_); (case side1 => repeat (first | exact (Kd.R_reads' HO381.out).2.2 | (with_reducible refine Kd.C_alloc ?_ _) | (with_reducible refine Kd.C_drewN ?_ _) | (with_reducible refine Kd.C_drew ?_))); (case side2 => exact (Kd.R_reads' HO381.out).2.1); (case side3 => repeat (first | exact (Kd.R_reads' HO387.out).2.2 | (with_reducible refine Kd.C_alloc ?_ _) | (with_reducible refine Kd.C_drewN ?_ _) | (with_reducible refine Kd.C_drew ?_))); (case side4 => exact (Kd.R_reads' HO387.out).2.1); rintro e w' ⟨rfl, ⟨nd, rfl⟩⟩; (try first | exact ⟨rfl, _, World.drewN_drewN _ _ _⟩ | exact ⟨rfl, _, Eq.trans (World.drewN_drewN _ _ _) (congrArg (World.drewN _) (Nat.add_assoc _ _ _))⟩))); try go_wp2_with (first | (go_at_call 11; (with_reducible refine (columbariumkeep_Texts.calls k _ _ t376 _ _ t382 true _ ?side1 ?side2 ?side3 ?side4 A42.out).mono ?_); (case side1 => repeat (first | exact (Kd.V_reads' HO378.out).2.2 | (with_reducible refine Kd.C_alloc ?_ _) | (with_reducible refine Kd.C_drewN ?_ _) | (with_reducible refine Kd.C_drew ?_))); (case side2 => exact (Kd.V_reads' HO378.out).2.1); (case side3 => repeat (first | exact (Kd.V_reads' HO384.out).2.2 | (with_reducible refine Kd.C_alloc ?_ _) | (with_reducible refine Kd.C_drewN ?_ _) | (with_reducible refine Kd.C_drew ?_))); (case side4 => exact (Kd.V_reads' HO384.out).2.1); rintro e w' ⟨rfl, ⟨nd, rfl⟩⟩; (try first | exact ⟨rfl, _, World.drewN_drewN _ _ _⟩ | exact ⟨rfl, _, Eq.trans (World.drewN_drewN _ _ _) (congrArg (World.drewN _) (Nat.add_assoc _ _ _))⟩); obtain ⟨Ao68, co68, eo68⟩ := Kd.R_slice HO381.out; subst eo68; obtain ⟨Ao69, co69, eo69⟩ := Kd.R_slice HO387.out; subst eo69) | (go_at_call 24; (with_reducible refine (columbariumbook_Same_int.calls k _ _ t379 _ _ t385 true _ ?side1 ?side2 ?side3 ?side4 A44.out).mono ?_); (case side1 => repeat (first | exact (Kd.R_reads' HO381.out).2.2 | (with_reducible refine Kd.C_alloc ?_ _) | (with_reducible refine Kd.C_drewN ?_ _) | (with_reducible refine Kd.C_drew ?_))); (case side2 => exact (Kd.R_reads' HO381.out).2.1); (case side3 => repeat (first | exact (Kd.R_reads' HO387.out).2.2 | (with_reducible refine Kd.C_alloc ?_ _) | (with_reducible refine Kd.C_drewN ?_ _) | (with_reducible refine Kd.C_drew ?_))); (case side4 => exact (Kd.R_reads' HO387.out).2.1); rintro e w' ⟨rfl, ⟨nd, rfl⟩⟩; (try first | exact ⟨rfl, _, World.drewN_drewN _ _ _⟩ | exact ⟨rfl, _, Eq.trans (World.drewN_drewN _ _ _) (congrArg (World.drewN _) (Nat.add_assoc _ _ _))⟩))))
         go_meet
         case rel => exact ⟨_, (true), (by first | rfl | (simp; done) | (simp [*]; done)), H', ⟨by first | omega | exact Nat.le_refl _⟩, ⟨by (with_reducible repeat (first | apply Kd.R_alloc | apply Kd.R_drewN | apply Kd.R_drew)); exact Kd.R_mono HO365.out (fun _ hk => hk.1.1.1.1)⟩, ⟨by (with_reducible repeat (first | apply Kd.V_alloc | apply Kd.V_drewN | apply Kd.V_drew)); exact Kd.V_mono HO3.out (fun _ hk => ⟨hk.1.1.1.1.1.1.1.1.1.1.1, ⟨hk.1.1.1.1.1.1.1.1.1.1.2, ⟨hk.1.1.2, hk.2⟩⟩⟩)⟩, ⟨by (with_reducible repeat (first | apply Kd.V_alloc | apply Kd.V_drewN | apply Kd.V_drew)); exact Kd.V_mono HO384.out (fun _ hk => ⟨hk.1.1.1.1.1.1, ⟨hk.1.1.1.1.1.2.2.1, ⟨hk.1.1.2, hk.2⟩⟩⟩)⟩, ⟨by (with_reducible repeat (first | apply Kd.N_alloc | apply Kd.N_drewN | apply Kd.N_drew)); exact Kd.N_mono HO410.out (fun _ hk => ⟨hk.1.1.1, ⟨hk.1.1.2.1, hk.2⟩⟩)⟩, ⟨by (with_reducible repeat (first | apply Kd.N_alloc | apply Kd.N_drewN | apply Kd.N_drew)); exact Kd.N_mono HO419.out (fun _ hk => ⟨hk.1, ⟨hk.2.1, hk.2.2.2.2.2.2.2.2.2.1⟩⟩)⟩, ⟨mB HB.out⟩⟩
       ·rw [if_neg c51] at H
        have c51b0 : (t398 == t400) = false := beq_eq_false_iff_ne.mpr c51
        have c51b1 : (t398 != t400) = true := bne_iff_ne.mpr c51
        have H' := Aside0.mk H
        clear H
        obtain ⟨Ao70, co70, eo70⟩ := Kd.V_slice HO378.out
        subst eo70
        go_wp2_with (first | (go_at_call 11; (with_reducible refine (columbariumkeep_Texts.calls k _ _ t376 _ _ t382 true _ ?side1 ?side2 ?side3 ?side4 A42.out).mono ?_); (case side1 => repeat (first | exact (Kd.V_reads' HO378.out).2.2 | (with_reducible refine Kd.C_alloc ?_ _) | (with_reducible refine Kd.C_drewN ?_ _) | (with_reducible refine Kd.C_drew ?_))); (case side2 => exact (Kd.V_reads' HO378.out).2.1); (case side3 => repeat (first | exact (Kd.V_reads' HO384.out).2.2 | (with_reducible refine Kd.C_alloc ?_ _) | (with_reducible refine Kd.C_drewN ?_ _) | (with_reducible refine Kd.C_drew ?_))); (case side4 => exact (Kd.V_reads' HO384.out).2.1); rintro e w' ⟨rfl, ⟨nd, rfl⟩⟩; (try first | exact ⟨rfl, _, World.drewN_drewN _ _ _⟩ | exact ⟨rfl, _, Eq.trans (World.drewN_drewN _ _ _) (congrArg (World.drewN _) (Nat.add_assoc _ _ _))⟩); obtain ⟨Ao71, co71, eo71⟩ := Kd.R_slice HO381.out; subst eo71; obtain ⟨Ao72, co72, eo72⟩ := Kd.R_slice HO387.out; subst eo72) | (go_at_call 24; (with_reducible refine (columbariumbook_Same_int.calls k _ _ t379 _ _ t385 true _ ?side1 ?side2 ?side3 ?side4 A44.out).mono ?_); (case side1 => repeat (first | exact (Kd.R_reads' HO381.out).2.2 | (with_reducible refine Kd.C_alloc ?_ _) | (with_reducible refine Kd.C_drewN ?_ _) | (with_reducible refine Kd.C_drew ?_))); (case side2 => exact (Kd.R_reads' HO381.out).2.1); (case side3 => repeat (first | exact (Kd.R_reads' HO387.out).2.2 | (with_reducible refine Kd.C_alloc ?_ _) | (with_reducible refine Kd.C_drewN ?_ _) | (with_reducible refine Kd.C_drew ?_))); (case side4 => exact (Kd.R_reads' HO387.out).2.1); rintro e w' ⟨rfl, ⟨nd, rfl⟩⟩; (try first | exact ⟨rfl, _, World.drewN_drewN _ _ _⟩ | exact ⟨rfl, _, Eq.trans (World.drewN_drewN _ _ _) (congrArg (World.drewN _) (Nat.add_assoc _ _ _))⟩)))
        repeat (go_quiet (first | (go_at_call 11; (with_reducible refine (columbariumkeep_Texts.calls k _ _ t376 _ _ t382 true _ ?side1 ?side2 ?side3 ?side4 A42.out).mono ?_); (case side1 => repeat (first | exact (Kd.V_reads' HO378.out).2.2 | (with_reducible refine Kd.C_alloc ?_ _) | (with_reducible refine Kd.C_drewN ?_ _) | (with_reducible refine Kd.C_drew ?_))); (case side2 => exact (Kd.V_reads' HO378.out).2.1); (case side3 => repeat (first | exact (Kd.V_reads' HO384.out).2.2 | (with_reducible refine Kd.C_alloc ?_ _) | (with_reducible refine Kd.C_drewN ?_ _) | (with_reducible refine Kd.C_drew ?_))); (case side4 => exact (Kd.V_reads' HO384.out).2.1); rintro e w' ⟨rfl, ⟨nd, rfl⟩⟩; (try first | exact ⟨rfl, _, World.drewN_drewN _ _ _⟩ | exact ⟨rfl, _, Eq.trans (World.drewN_drewN _ _ _) (congrArg (World.drewN _) (Nat.add_assoc _ _ _))⟩); obtain ⟨Ao71, co71, eo71⟩ := Kd.R_slice HO381.out; subst eo71; obtain ⟨Ao72, co72, eo72⟩ := Kd.R_slice HO387.out; subst eo72) | (go_at_call 24; (with_reducible refine (columbariumbook_Same_int.calls k _ _ t379 _ _ t385 true _ ?side1 ?side2 ?side3 ?side4 A44.out).mono ?_); (case side1 => repeat (first | exact (Kd.R_reads' HO381.out).2.2 | (with_reducible refine Kd.C_alloc ?_ _) | (with_reducible refine Kd.C_drewN ?_ _) | (with_reducible refine Kd.C_drew ?_))); (case side2 => exact (Kd.R_reads' HO381.out).2.1); (case side3 => repeat (first | exact (Kd.R_reads' HO387.out).2.2 | (with_reducible refine Kd.C_alloc ?_ _) | (with_reducible refine Kd.C_drewN ?_ _) | (with_reducible refine Kd.C_drew ?_))); (case side4 => exact (Kd.R_reads' HO387.out).2.1); rintro e w' ⟨rfl, ⟨nd, rfl⟩⟩; (try first | exact ⟨rfl, _, World.drewN_drewN _ _ _⟩ | exact ⟨rfl, _, Eq.trans (World.drewN_drewN _ _ _) (congrArg (World.drewN _) (Nat.add_assoc _ _ _))⟩))); try go_wp2_with (first | (go_at_call 11; (with_reducible refine (columbariumkeep_Texts.calls k _ _ t376 _ _ t382 true _ ?side1 ?side2 ?side3 ?side4 A42.out).mono ?_); (case side1 => repeat (first | exact (Kd.V_reads' HO378.out).2.2 | (with_reducible refine Kd.C_alloc ?_ _) | (with_reducible refine Kd.C_drewN ?_ _) | (with_reducible refine Kd.C_drew ?_))); (case side2 => exact (Kd.V_reads' HO378.out).2.1); (case side3 => repeat (first | exact (Kd.V_reads' HO384.out).2.2 | (with_reducible refine Kd.C_alloc ?_ _) | (with_reducible refine Kd.C_drewN ?_ _) | (with_reducible refine Kd.C_drew ?_))); (case side4 => exact (Kd.V_reads' HO384.out).2.1); rintro e w' ⟨rfl, ⟨nd, rfl⟩⟩; (try first | exact ⟨rfl, _, World.drewN_drewN _ _ _⟩ | exact ⟨rfl, _, Eq.trans (World.drewN_drewN _ _ _) (congrArg (World.drewN _) (Nat.add_assoc _ _ _))⟩); obtain ⟨Ao71, co71, eo71⟩ := Kd.R_slice HO381.out; subst eo71; obtain ⟨Ao72, co72, eo72⟩ := Kd.R_slice HO387.out; subst eo72) | (go_at_call 24; (with_reducible refine (columbariumbook_Same_int.calls k _ _ t379 _ _ t385 true _ ?side1 ?side2 ?side3 ?side4 A44.out).mono ?_); (case side1 => repeat (first | exact (Kd.R_reads' HO381.out).2.2 | (with_reducible refine Kd.C_alloc ?_ _) | (with_reducible refine Kd.C_drewN ?_ _) | (with_reducible refine Kd.C_drew ?_))); (case side2 => exact (Kd.R_reads' HO381.out).2.1); (case side3 => repeat (first | exact (Kd.R_reads' HO387.out).2.2 | (with_reducible refine Kd.C_alloc ?_ _) | (with_reducible refine Kd.C_drewN ?_ _) | (with_reducible refine Kd.C_drew ?_))); (case side4 => exact (Kd.R_reads' HO387.out).2.1); rintro e w' ⟨rfl, ⟨nd, rfl⟩⟩; (try first | exact ⟨rfl, _, World.drewN_drewN _ _ _⟩ | exact ⟨rfl, _, Eq.trans (World.drewN_drewN _ _ _) (congrArg (World.drewN _) (Nat.add_assoc _ _ _))⟩))))
        go_meet
        case rel => exact ⟨_, (true), (by first | rfl | (simp; done) | (simp [*]; done)), H', ⟨by first | omega | exact Nat.le_refl _⟩, ⟨by (with_reducible repeat (first | apply Kd.R_alloc | apply Kd.R_drewN | apply Kd.R_drew)); exact Kd.R_mono HO365.out (fun _ hk => hk.1.1.1.1)⟩, ⟨by (with_reducible repeat (first | apply Kd.V_alloc | apply Kd.V_drewN | apply Kd.V_drew)); exact Kd.V_mono HO3.out (fun _ hk => ⟨hk.1.1.1.1.1.1.1.1.1.1.1, ⟨hk.1.1.1.1.1.1.1.1.1.1.2, ⟨hk.1.1.2, hk.2⟩⟩⟩)⟩, ⟨by (with_reducible repeat (first | apply Kd.V_alloc | apply Kd.V_drewN | apply Kd.V_drew)); exact Kd.V_mono HO384.out (fun _ hk => ⟨hk.1.1.1.1.1.1, ⟨hk.1.1.1.1.1.2.2.1, ⟨hk.1.1.2, hk.2⟩⟩⟩)⟩, ⟨by (with_reducible repeat (first | apply Kd.N_alloc | apply Kd.N_drewN | apply Kd.N_drew)); exact Kd.N_mono HO410.out (fun _ hk => ⟨hk.1.1.1, ⟨hk.1.1.2.1, hk.2⟩⟩)⟩, ⟨by (with_reducible repeat (first | apply Kd.N_alloc | apply Kd.N_drewN | apply Kd.N_drew)); exact Kd.N_mono HO419.out (fun _ hk => ⟨hk.1, ⟨hk.2.1, hk.2.2.2.2.2.2.2.2.2.1⟩⟩)⟩, ⟨mB HB.out⟩⟩
     ·rw [if_neg c46] at H
      have c46b0 : (t394 == t396) = false := beq_eq_false_iff_ne.mpr c46
      have c46b1 : (t394 != t396) = true := bne_iff_ne.mpr c46
      (first | rw [c46b0] | rw [c46b1] | (simp only [i64_w, i32_w]; rw [c46b0]) | skip)
      have H' := Aside0.mk H
      clear H
      obtain ⟨Ao73, co73, eo73⟩ := Kd.V_slice HO378.out
      subst eo73
      go_wp2_with (first | (go_at_call 11; (with_reducible refine (columbariumkeep_Texts.calls k _ _ t376 _ _ t382 true _ ?side1 ?side2 ?side3 ?side4 A42.out).mono ?_); (case side1 => repeat (first | exact (Kd.V_reads' HO378.out).2.2 | (with_reducible refine Kd.C_alloc ?_ _) | (with_reducible refine Kd.C_drewN ?_ _) | (with_reducible refine Kd.C_drew ?_))); (case side2 => exact (Kd.V_reads' HO378.out).2.1); (case side3 => repeat (first | exact (Kd.V_reads' HO384.out).2.2 | (with_reducible refine Kd.C_alloc ?_ _) | (with_reducible refine Kd.C_drewN ?_ _) | (with_reducible refine Kd.C_drew ?_))); (case side4 => exact (Kd.V_reads' HO384.out).2.1); rintro e w' ⟨rfl, ⟨nd, rfl⟩⟩; (try first | exact ⟨rfl, _, World.drewN_drewN _ _ _⟩ | exact ⟨rfl, _, Eq.trans (World.drewN_drewN _ _ _) (congrArg (World.drewN _) (Nat.add_assoc _ _ _))⟩); obtain ⟨Ao74, co74, eo74⟩ := Kd.R_slice HO381.out; subst eo74; obtain ⟨Ao75, co75, eo75⟩ := Kd.R_slice HO387.out; subst eo75) | (go_at_call 24; (with_reducible refine (columbariumbook_Same_int.calls k _ _ t379 _ _ t385 true _ ?side1 ?side2 ?side3 ?side4 A44.out).mono ?_); (case side1 => repeat (first | exact (Kd.R_reads' HO381.out).2.2 | (with_reducible refine Kd.C_alloc ?_ _) | (with_reducible refine Kd.C_drewN ?_ _) | (with_reducible refine Kd.C_drew ?_))); (case side2 => exact (Kd.R_reads' HO381.out).2.1); (case side3 => repeat (first | exact (Kd.R_reads' HO387.out).2.2 | (with_reducible refine Kd.C_alloc ?_ _) | (with_reducible refine Kd.C_drewN ?_ _) | (with_reducible refine Kd.C_drew ?_))); (case side4 => exact (Kd.R_reads' HO387.out).2.1); rintro e w' ⟨rfl, ⟨nd, rfl⟩⟩; (try first | exact ⟨rfl, _, World.drewN_drewN _ _ _⟩ | exact ⟨rfl, _, Eq.trans (World.drewN_drewN _ _ _) (congrArg (World.drewN _) (Nat.add_assoc _ _ _))⟩)))
      repeat (go_quiet (first | (go_at_call 11; (with_reducible refine (columbariumkeep_Texts.calls k _ _ t376 _ _ t382 true _ ?side1 ?side2 ?side3 ?side4 A42.out).mono ?_); (case side1 => repeat (first | exact (Kd.V_reads' HO378.out).2.2 | (with_reducible refine Kd.C_alloc ?_ _) | (with_reducible refine Kd.C_drewN ?_ _) | (with_reducible refine Kd.C_drew ?_))); (case side2 => exact (Kd.V_reads' HO378.out).2.1); (case side3 => repeat (first | exact (Kd.V_reads' HO384.out).2.2 | (with_reducible refine Kd.C_alloc ?_ _) | (with_reducible refine Kd.C_drewN ?_ _) | (with_reducible refine Kd.C_drew ?_))); (case side4 => exact (Kd.V_reads' HO384.out).2.1); rintro e w' ⟨rfl, ⟨nd, rfl⟩⟩; (try first | exact ⟨rfl, _, World.drewN_drewN _ _ _⟩ | exact ⟨rfl, _, Eq.trans (World.drewN_drewN _ _ _) (congrArg (World.drewN _) (Nat.add_assoc _ _ _))⟩); obtain ⟨Ao74, co74, eo74⟩ := Kd.R_slice HO381.out; subst eo74; obtain ⟨Ao75, co75, eo75⟩ := Kd.R_slice HO387.out; subst eo75) | (go_at_call 24; (with_reducible refine (columbariumbook_Same_int.calls k _ _ t379 _ _ t385 true _ ?side1 ?side2 ?side3 ?side4 A44.out).mono ?_); (case side1 => repeat (first | exact (Kd.R_reads' HO381.out).2.2 | (with_reducible refine Kd.C_alloc ?_ _) | (with_reducible refine Kd.C_drewN ?_ _) | (with_reducible refine Kd.C_drew ?_))); (case side2 => exact (Kd.R_reads' HO381.out).2.1); (case side3 => repeat (first | exact (Kd.R_reads' HO387.out).2.2 | (with_reducible refine Kd.C_alloc ?_ _) | (with_reducible refine Kd.C_drewN ?_ _) | (with_reducible refine Kd.C_drew ?_))); (case side4 => exact (Kd.R_reads' HO387.out).2.1); rintro e w' ⟨rfl, ⟨nd, rfl⟩⟩; (try first | exact ⟨rfl, _, World.drewN_drewN _ _ _⟩ | exact ⟨rfl, _, Eq.trans (World.drewN_drewN _ _ _) (congrArg (World.drewN _) (Nat.add_assoc _ _ _))⟩))); try go_wp2_with (first | (go_at_call 11; (with_reducible refine (columbariumkeep_Texts.calls k _ _ t376 _ _ t382 true _ ?side1 ?side2 ?side3 ?side4 A42.out).mono ?_); (case side1 => repeat (first | exact (Kd.V_reads' HO378.out).2.2 | (with_reducible refine Kd.C_alloc ?_ _) | (with_reducible refine Kd.C_drewN ?_ _) | (with_reducible refine Kd.C_drew ?_))); (case side2 => exact (Kd.V_reads' HO378.out).2.1); (case side3 => repeat (first | exact (Kd.V_reads' HO384.out).2.2 | (with_reducible refine Kd.C_alloc ?_ _) | (with_reducible refine Kd.C_drewN ?_ _) | (with_reducible refine Kd.C_drew ?_))); (case side4 => exact (Kd.V_reads' HO384.out).2.1); rintro e w' ⟨rfl, ⟨nd, rfl⟩⟩; (try first | exact ⟨rfl, _, World.drewN_drewN _ _ _⟩ | exact ⟨rfl, _, Eq.trans (World.drewN_drewN _ _ _) (congrArg (World.drewN _) (Nat.add_assoc _ _ _))⟩); obtain ⟨Ao74, co74, eo74⟩ := Kd.R_slice HO381.out; subst eo74; obtain ⟨Ao75, co75, eo75⟩ := Kd.R_slice HO387.out; subst eo75) | (go_at_call 24; (with_reducible refine (columbariumbook_Same_int.calls k _ _ t379 _ _ t385 true _ ?side1 ?side2 ?side3 ?side4 A44.out).mono ?_); (case side1 => repeat (first | exact (Kd.R_reads' HO381.out).2.2 | (with_reducible refine Kd.C_alloc ?_ _) | (with_reducible refine Kd.C_drewN ?_ _) | (with_reducible refine Kd.C_drew ?_))); (case side2 => exact (Kd.R_reads' HO381.out).2.1); (case side3 => repeat (first | exact (Kd.R_reads' HO387.out).2.2 | (with_reducible refine Kd.C_alloc ?_ _) | (with_reducible refine Kd.C_drewN ?_ _) | (with_reducible refine Kd.C_drew ?_))); (case side4 => exact (Kd.R_reads' HO387.out).2.1); rintro e w' ⟨rfl, ⟨nd, rfl⟩⟩; (try first | exact ⟨rfl, _, World.drewN_drewN _ _ _⟩ | exact ⟨rfl, _, Eq.trans (World.drewN_drewN _ _ _) (congrArg (World.drewN _) (Nat.add_assoc _ _ _))⟩))))
      go_meet
      case rel => exact ⟨_, (true), (by first | rfl | (simp; done) | (simp [*]; done)), H', ⟨by first | omega | exact Nat.le_refl _⟩, ⟨by (with_reducible repeat (first | apply Kd.R_alloc | apply Kd.R_drewN | apply Kd.R_drew)); exact Kd.R_mono HO365.out (fun _ hk => hk.1.1.1.1)⟩, ⟨by (with_reducible repeat (first | apply Kd.V_alloc | apply Kd.V_drewN | apply Kd.V_drew)); exact Kd.V_mono HO3.out (fun _ hk => ⟨hk.1.1.1.1.1.1.1.1.1.1.1, ⟨hk.1.1.1.1.1.1.1.1.1.1.2, ⟨hk.1.1.2, hk.2⟩⟩⟩)⟩, ⟨by (with_reducible repeat (first | apply Kd.V_alloc | apply Kd.V_drewN | apply Kd.V_drew)); exact Kd.V_mono HO384.out (fun _ hk => ⟨hk.1.1.1.1.1.1, ⟨hk.1.1.1.1.1.2.2.1, ⟨hk.1.1.2, hk.2⟩⟩⟩)⟩, ⟨by (with_reducible repeat (first | apply Kd.N_alloc | apply Kd.N_drewN | apply Kd.N_drew)); exact Kd.N_mono HO410.out (fun _ hk => ⟨hk.1.1.1, ⟨hk.1.1.2.1, hk.2⟩⟩)⟩, ⟨by (with_reducible repeat (first | apply Kd.N_alloc | apply Kd.N_drewN | apply Kd.N_drew)); exact Kd.N_mono HO419.out (fun _ hk => ⟨hk.1, ⟨hk.2.1, hk.2.2.2.2.2.2.2.2.2.1⟩⟩)⟩, ⟨mB HB.out⟩⟩
    ·replace c45 := Bool.eq_false_iff.mpr c45
     subst c45
     have H1 : (columbariumlaw7_DictTells.j0 k t363 l3 a4 t382 t408 t417 true) = some r := by rw [if_neg (show ¬ (false = true) by decide)] at H; exact H
     clear H
     have H := H1
     clear H1
     have H' := Aside0.mk H
     clear H
     obtain ⟨Ao76, co76, eo76⟩ := Kd.V_slice HO378.out
     subst eo76
     go_wp2_with (first | (go_at_call 11; (with_reducible refine (columbariumkeep_Texts.calls k _ _ t376 _ _ t382 true _ ?side1 ?side2 ?side3 ?side4 A42.out).mono ?_); (case side1 => repeat (first | exact (Kd.V_reads' HO378.out).2.2 | (with_reducible refine Kd.C_alloc ?_ _) | (with_reducible refine Kd.C_drewN ?_ _) | (with_reducible refine Kd.C_drew ?_))); (case side2 => exact (Kd.V_reads' HO378.out).2.1); (case side3 => repeat (first | exact (Kd.V_reads' HO384.out).2.2 | (with_reducible refine Kd.C_alloc ?_ _) | (with_reducible refine Kd.C_drewN ?_ _) | (with_reducible refine Kd.C_drew ?_))); (case side4 => exact (Kd.V_reads' HO384.out).2.1); rintro e w' ⟨rfl, ⟨nd, rfl⟩⟩; (try first | exact ⟨rfl, _, World.drewN_drewN _ _ _⟩ | exact ⟨rfl, _, Eq.trans (World.drewN_drewN _ _ _) (congrArg (World.drewN _) (Nat.add_assoc _ _ _))⟩); obtain ⟨Ao77, co77, eo77⟩ := Kd.R_slice HO381.out; subst eo77; obtain ⟨Ao78, co78, eo78⟩ := Kd.R_slice HO387.out; subst eo78) | (go_at_call 24; (with_reducible refine (columbariumbook_Same_int.calls k _ _ t379 _ _ t385 false _ ?side1 ?side2 ?side3 ?side4 A44.out).mono ?_); (case side1 => repeat (first | exact (Kd.R_reads' HO381.out).2.2 | (with_reducible refine Kd.C_alloc ?_ _) | (with_reducible refine Kd.C_drewN ?_ _) | (with_reducible refine Kd.C_drew ?_))); (case side2 => exact (Kd.R_reads' HO381.out).2.1); (case side3 => repeat (first | exact (Kd.R_reads' HO387.out).2.2 | (with_reducible refine Kd.C_alloc ?_ _) | (with_reducible refine Kd.C_drewN ?_ _) | (with_reducible refine Kd.C_drew ?_))); (case side4 => exact (Kd.R_reads' HO387.out).2.1); rintro e w' ⟨rfl, ⟨nd, rfl⟩⟩; (try first | exact ⟨rfl, _, World.drewN_drewN _ _ _⟩ | exact ⟨rfl, _, Eq.trans (World.drewN_drewN _ _ _) (congrArg (World.drewN _) (Nat.add_assoc _ _ _))⟩)))
     repeat (go_quiet (first | (go_at_call 11; (with_reducible refine (columbariumkeep_Texts.calls k _ _ t376 _ _ t382 true _ ?side1 ?side2 ?side3 ?side4 A42.out).mono ?_); (case side1 => repeat (first | exact (Kd.V_reads' HO378.out).2.2 | (with_reducible refine Kd.C_alloc ?_ _) | (with_reducible refine Kd.C_drewN ?_ _) | (with_reducible refine Kd.C_drew ?_))); (case side2 => exact (Kd.V_reads' HO378.out).2.1); (case side3 => repeat (first | exact (Kd.V_reads' HO384.out).2.2 | (with_reducible refine Kd.C_alloc ?_ _) | (with_reducible refine Kd.C_drewN ?_ _) | (with_reducible refine Kd.C_drew ?_))); (case side4 => exact (Kd.V_reads' HO384.out).2.1); rintro e w' ⟨rfl, ⟨nd, rfl⟩⟩; (try first | exact ⟨rfl, _, World.drewN_drewN _ _ _⟩ | exact ⟨rfl, _, Eq.trans (World.drewN_drewN _ _ _) (congrArg (World.drewN _) (Nat.add_assoc _ _ _))⟩); obtain ⟨Ao77, co77, eo77⟩ := Kd.R_slice HO381.out; subst eo77; obtain ⟨Ao78, co78, eo78⟩ := Kd.R_slice HO387.out; subst eo78) | (go_at_call 24; (with_reducible refine (columbariumbook_Same_int.calls k _ _ t379 _ _ t385 false _ ?side1 ?side2 ?side3 ?side4 A44.out).mono ?_); (case side1 => repeat (first | exact (Kd.R_reads' HO381.out).2.2 | (with_reducible refine Kd.C_alloc ?_ _) | (with_reducible refine Kd.C_drewN ?_ _) | (with_reducible refine Kd.C_drew ?_))); (case side2 => exact (Kd.R_reads' HO381.out).2.1); (case side3 => repeat (first | exact (Kd.R_reads' HO387.out).2.2 | (with_reducible refine Kd.C_alloc ?_ _) | (with_reducible refine Kd.C_drewN ?_ _) | (with_reducible refine Kd.C_drew ?_))); (case side4 => exact (Kd.R_reads' HO387.out).2.1); rintro e w' ⟨rfl, ⟨nd, rfl⟩⟩; (try first | exact ⟨rfl, _, World.drewN_drewN _ _ _⟩ | exact ⟨rfl, _, Eq.trans (World.drewN_drewN _ _ _) (congrArg (World.drewN _) (Nat.add_assoc _ _ _))⟩))); try go_wp2_with (first | (go_at_call 11; (with_reducible refine (columbariumkeep_Texts.calls k _ _ t376 _ _ t382 true _ ?side1 ?side2 ?side3 ?side4 A42.out).mono ?_); (case side1 => repeat (first | exact (Kd.V_reads' HO378.out).2.2 | (with_reducible refine Kd.C_alloc ?_ _) | (with_reducible refine Kd.C_drewN ?_ _) | (with_reducible refine Kd.C_drew ?_))); (case side2 => exact (Kd.V_reads' HO378.out).2.1); (case side3 => repeat (first | exact (Kd.V_reads' HO384.out).2.2 | (with_reducible refine Kd.C_alloc ?_ _) | (with_reducible refine Kd.C_drewN ?_ _) | (with_reducible refine Kd.C_drew ?_))); (case side4 => exact (Kd.V_reads' HO384.out).2.1); rintro e w' ⟨rfl, ⟨nd, rfl⟩⟩; (try first | exact ⟨rfl, _, World.drewN_drewN _ _ _⟩ | exact ⟨rfl, _, Eq.trans (World.drewN_drewN _ _ _) (congrArg (World.drewN _) (Nat.add_assoc _ _ _))⟩); obtain ⟨Ao77, co77, eo77⟩ := Kd.R_slice HO381.out; subst eo77; obtain ⟨Ao78, co78, eo78⟩ := Kd.R_slice HO387.out; subst eo78) | (go_at_call 24; (with_reducible refine (columbariumbook_Same_int.calls k _ _ t379 _ _ t385 false _ ?side1 ?side2 ?side3 ?side4 A44.out).mono ?_); (case side1 => repeat (first | exact (Kd.R_reads' HO381.out).2.2 | (with_reducible refine Kd.C_alloc ?_ _) | (with_reducible refine Kd.C_drewN ?_ _) | (with_reducible refine Kd.C_drew ?_))); (case side2 => exact (Kd.R_reads' HO381.out).2.1); (case side3 => repeat (first | exact (Kd.R_reads' HO387.out).2.2 | (with_reducible refine Kd.C_alloc ?_ _) | (with_reducible refine Kd.C_drewN ?_ _) | (with_reducible refine Kd.C_drew ?_))); (case side4 => exact (Kd.R_reads' HO387.out).2.1); rintro e w' ⟨rfl, ⟨nd, rfl⟩⟩; (try first | exact ⟨rfl, _, World.drewN_drewN _ _ _⟩ | exact ⟨rfl, _, Eq.trans (World.drewN_drewN _ _ _) (congrArg (World.drewN _) (Nat.add_assoc _ _ _))⟩))))
     go_meet
     case rel => exact ⟨_, (true), (by first | rfl | (simp; done) | (simp [*]; done)), H', ⟨by first | omega | exact Nat.le_refl _⟩, ⟨by (with_reducible repeat (first | apply Kd.R_alloc | apply Kd.R_drewN | apply Kd.R_drew)); exact Kd.R_mono HO365.out (fun _ hk => hk.1.1.1.1)⟩, ⟨by (with_reducible repeat (first | apply Kd.V_alloc | apply Kd.V_drewN | apply Kd.V_drew)); exact Kd.V_mono HO3.out (fun _ hk => ⟨hk.1.1.1.1.1.1.1.1.1.1.1, ⟨hk.1.1.1.1.1.1.1.1.1.1.2, ⟨hk.1.1.2, hk.2⟩⟩⟩)⟩, ⟨by (with_reducible repeat (first | apply Kd.V_alloc | apply Kd.V_drewN | apply Kd.V_drew)); exact Kd.V_mono HO384.out (fun _ hk => ⟨hk.1.1.1.1.1.1, ⟨hk.1.1.1.1.1.2.2.1, ⟨hk.1.1.2, hk.2⟩⟩⟩)⟩, ⟨by (with_reducible repeat (first | apply Kd.N_alloc | apply Kd.N_drewN | apply Kd.N_drew)); exact Kd.N_mono HO410.out (fun _ hk => ⟨hk.1.1.1, ⟨hk.1.1.2.1, hk.2⟩⟩)⟩, ⟨by (with_reducible repeat (first | apply Kd.N_alloc | apply Kd.N_drewN | apply Kd.N_drew)); exact Kd.N_mono HO419.out (fun _ hk => ⟨hk.1, ⟨hk.2.1, hk.2.2.2.2.2.2.2.2.2.1⟩⟩)⟩, ⟨mB HB.out⟩⟩
   ·replace c43 := Bool.eq_false_iff.mpr c43
    subst c43
    have H1 : (columbariumlaw7_DictTells.j0 k t363 l3 a4 t382 t408 t417 true) = some r := by rw [if_neg (show ¬ (false = true) by decide)] at H; exact H
    clear H
    have H := H1
    clear H1
    have H' := Aside0.mk H
    clear H
    obtain ⟨Ao79, co79, eo79⟩ := Kd.V_slice HO378.out
    subst eo79
    go_wp2_with (first | (go_at_call 11; (with_reducible refine (columbariumkeep_Texts.calls k _ _ t376 _ _ t382 false _ ?side1 ?side2 ?side3 ?side4 A42.out).mono ?_); (case side1 => repeat (first | exact (Kd.V_reads' HO378.out).2.2 | (with_reducible refine Kd.C_alloc ?_ _) | (with_reducible refine Kd.C_drewN ?_ _) | (with_reducible refine Kd.C_drew ?_))); (case side2 => exact (Kd.V_reads' HO378.out).2.1); (case side3 => repeat (first | exact (Kd.V_reads' HO384.out).2.2 | (with_reducible refine Kd.C_alloc ?_ _) | (with_reducible refine Kd.C_drewN ?_ _) | (with_reducible refine Kd.C_drew ?_))); (case side4 => exact (Kd.V_reads' HO384.out).2.1); rintro e w' ⟨rfl, ⟨nd, rfl⟩⟩; (try first | exact ⟨rfl, _, World.drewN_drewN _ _ _⟩ | exact ⟨rfl, _, Eq.trans (World.drewN_drewN _ _ _) (congrArg (World.drewN _) (Nat.add_assoc _ _ _))⟩)))
    repeat (go_quiet (first | (go_at_call 11; (with_reducible refine (columbariumkeep_Texts.calls k _ _ t376 _ _ t382 false _ ?side1 ?side2 ?side3 ?side4 A42.out).mono ?_); (case side1 => repeat (first | exact (Kd.V_reads' HO378.out).2.2 | (with_reducible refine Kd.C_alloc ?_ _) | (with_reducible refine Kd.C_drewN ?_ _) | (with_reducible refine Kd.C_drew ?_))); (case side2 => exact (Kd.V_reads' HO378.out).2.1); (case side3 => repeat (first | exact (Kd.V_reads' HO384.out).2.2 | (with_reducible refine Kd.C_alloc ?_ _) | (with_reducible refine Kd.C_drewN ?_ _) | (with_reducible refine Kd.C_drew ?_))); (case side4 => exact (Kd.V_reads' HO384.out).2.1); rintro e w' ⟨rfl, ⟨nd, rfl⟩⟩; (try first | exact ⟨rfl, _, World.drewN_drewN _ _ _⟩ | exact ⟨rfl, _, Eq.trans (World.drewN_drewN _ _ _) (congrArg (World.drewN _) (Nat.add_assoc _ _ _))⟩))); try go_wp2_with (first | (go_at_call 11; (with_reducible refine (columbariumkeep_Texts.calls k _ _ t376 _ _ t382 false _ ?side1 ?side2 ?side3 ?side4 A42.out).mono ?_); (case side1 => repeat (first | exact (Kd.V_reads' HO378.out).2.2 | (with_reducible refine Kd.C_alloc ?_ _) | (with_reducible refine Kd.C_drewN ?_ _) | (with_reducible refine Kd.C_drew ?_))); (case side2 => exact (Kd.V_reads' HO378.out).2.1); (case side3 => repeat (first | exact (Kd.V_reads' HO384.out).2.2 | (with_reducible refine Kd.C_alloc ?_ _) | (with_reducible refine Kd.C_drewN ?_ _) | (with_reducible refine Kd.C_drew ?_))); (case side4 => exact (Kd.V_reads' HO384.out).2.1); rintro e w' ⟨rfl, ⟨nd, rfl⟩⟩; (try first | exact ⟨rfl, _, World.drewN_drewN _ _ _⟩ | exact ⟨rfl, _, Eq.trans (World.drewN_drewN _ _ _) (congrArg (World.drewN _) (Nat.add_assoc _ _ _))⟩))))
    go_meet
    case rel => exact ⟨_, (true), (by first | rfl | (simp; done) | (simp [*]; done)), H', ⟨by first | omega | exact Nat.le_refl _⟩, ⟨by (with_reducible repeat (first | apply Kd.R_alloc | apply Kd.R_drewN | apply Kd.R_drew)); exact Kd.R_mono HO365.out (fun _ hk => hk.1.1.1.1)⟩, ⟨by (with_reducible repeat (first | apply Kd.V_alloc | apply Kd.V_drewN | apply Kd.V_drew)); exact Kd.V_mono HO3.out (fun _ hk => ⟨hk.1.1.1.1.1.1.1.1.1.1.1, ⟨hk.1.1.1.1.1.1.1.1.1.1.2, ⟨hk.1.1.2, hk.2⟩⟩⟩)⟩, ⟨by (with_reducible repeat (first | apply Kd.V_alloc | apply Kd.V_drewN | apply Kd.V_drew)); exact Kd.V_mono HO384.out (fun _ hk => ⟨hk.1.1.1.1.1.1, ⟨hk.1.1.1.1.1.2.2.1, ⟨hk.1.1.2, hk.2⟩⟩⟩)⟩, ⟨by (with_reducible repeat (first | apply Kd.N_alloc | apply Kd.N_drewN | apply Kd.N_drew)); exact Kd.N_mono HO410.out (fun _ hk => ⟨hk.1.1.1, ⟨hk.1.1.2.1, hk.2⟩⟩)⟩, ⟨by (with_reducible repeat (first | apply Kd.N_alloc | apply Kd.N_drewN | apply Kd.N_drew)); exact Kd.N_mono HO419.out (fun _ hk => ⟨hk.1, ⟨hk.2.1, hk.2.2.2.2.2.2.2.2.2.1⟩⟩)⟩, ⟨mB HB.out⟩⟩
  case rest =>
   clear HC19
   try clear c1
   try clear p2
   try clear c3
   try clear p3
   try clear q3
   try clear hx3
   try clear qi3
   try clear c4
   try clear c5
   try clear c7
   try clear c9
   try clear c9b0
   try clear c9b1
   try clear p37
   try clear q37
   try clear hx37
   try clear qi37
   try clear c43
   try clear c45
   try clear c46
   try clear c46b0
   try clear c46b1
   try clear c47
   try clear c47b0
   try clear c47b1
   try clear c47b2
   try clear c51
   try clear c51b0
   try clear c51b1
   try clear c52
   try clear c52b0
   try clear c52b1
   try clear c54
   try clear hx375_0
   try clear p375
   try clear q375
   obtain ⟨kq, x146_18, rfl, HA, HJ18, HO_0, HO_3, HO_13, HO_26, HO_28, HB⟩ := hcut
   cases kq with
   | zero => exact absurd HA.out (by simp [columbariumlaw7_DictTells.j0])
   | succ kj18 =>
    have H := HA.out
    clear HA
    simp only [columbariumlaw7_DictTells.j0] at H
    by_cases c80 : x146_18 = true
    ·subst c80
     have H1 : (some false) = some r := by rw [if_pos rfl] at H; exact H
     clear H
     have H := H1
     clear H1
     exact absurd ((Option.some.inj H).trans hrt_.out) (by decide)
    ·replace c80 := Bool.eq_false_iff.mpr c80
     subst c80
     have H1 : (columbariumlaw7_DictTells.l0 kj18 t363 l3 a4 t382 t408 t417 0) = some r := by rw [if_neg (show ¬ (false = true) by decide)] at H; exact H
     clear H
     have H := H1
     clear H1
     have H' := Aside0.mk H
     clear H
     go_wp2
     repeat (go_quiet (fail); try go_wp2)
     go_loopg [29] kj18 (fun kq v29 w' => ∃ (x29_2 : Int), v29 = .int .i64 x29_2 ∧ Aside0 (columbariumlaw7_DictTells.l0 kq t363 l3 a4 t382 t408 t417 x29_2 = some r) ∧ Aside0 (kq ≤ kj18) ∧ Aside0 (Kd.R Kd.string 9 w' w.heap.size (fun k_ => (w.heap.size ≤ k_)) (.slice Ao27 t363.length co27) t363) ∧ Aside0 (Kd.V (Kd.int .u8) 5 w' w.heap.size (fun k_ => (P3_ k_ ∨ w.heap.size ≤ k_) ∧ some k_ ≠ ((.slice Ao27 t363.length co27) : Value).ownBlock ∧ some k_ ≠ (v409 : Value).ownBlock ∧ some k_ ≠ (v418 : Value).ownBlock) (.slice A3 l3.length c3) l3) ∧ Aside0 (Kd.V Kd.string 9 w' w.heap.size (fun k_ => (P3_ k_ ∨ w.heap.size ≤ k_) ∧ some k_ ≠ ((.slice Ao27 t363.length co27) : Value).ownBlock ∧ some k_ ≠ (v409 : Value).ownBlock ∧ some k_ ≠ (v418 : Value).ownBlock) (.slice Ao32 t382.length co32) t382) ∧ Aside0 (Kd.N (Kd.slice 3 (Kd.int .i64)) 23 w' w.heap.size (fun k_ => (P3_ k_ ∨ w.heap.size ≤ k_) ∧ some k_ ≠ ((.slice Ao27 t363.length co27) : Value).ownBlock ∧ some k_ ≠ (v418 : Value).ownBlock) v409 t408) ∧ Aside0 (Kd.N (Kd.slice 3 (Kd.int .i64)) 23 w' w.heap.size (fun k_ => (P3_ k_ ∨ w.heap.size ≤ k_) ∧ some k_ ≠ ((.slice Ao27 t363.length co27) : Value).ownBlock ∧ some k_ ≠ (v409 : Value).ownBlock) v418 t417) ∧ Aside0 (Below w.heap.size w w'))
     case atStart => exact ⟨(0), (by first | rfl | (simp; done) | (simp [*]; done)), H', ⟨Nat.le_refl _⟩, ⟨mR HO_0.out⟩, ⟨mV HO_3.out⟩, ⟨mV HO_13.out⟩, ⟨mN HO_26.out⟩, ⟨mN HO_28.out⟩, ⟨mB HB.out⟩⟩
     case round =>
      clear H'
      try clear c1
      try clear p2
      try clear c3
      try clear p3
      try clear q3
      try clear hx3
      try clear qi3
      try clear c4
      try clear c5
      try clear c7
      try clear c8
      try clear c9
      try clear c9b0
      try clear c9b1
      try clear p37
      try clear q37
      try clear hx37
      try clear qi37
      try clear c43
      try clear c45
      try clear c46
      try clear c46b0
      try clear c46b1
      try clear c47
      try clear c47b0
      try clear c47b1
      try clear c47b2
      try clear c51
      try clear c51b0
      try clear c51b1
      try clear c52
      try clear c52b0
      try clear c52b1
      try clear c54
      try clear c80
      try clear hx375_0
      try clear p2
      try clear p3
      try clear p37
      try clear p375
      try clear q3
      try clear q37
      try clear q375
      obtain ⟨x29_2, rfl, HA, HK2, HO_0, HO_3, HO_13, HO_26, HO_28, HB⟩ := hrel
      cases gk with
      | zero => exact absurd HA.out (by simp [columbariumlaw7_DictTells.l0])
      | succ k2 =>
       have H := HA.out
       clear HA
       simp only [columbariumlaw7_DictTells.l0] at H
       by_cases c81 : x29_2 < (t408.length : Int)
       ·rw [if_pos c81] at H
        have c81b0 : decide (x29_2 < (t408.length : Int)) = true := decide_eq_true c81
        clear c81
        by_cases c82 : 0 ≤ x29_2
        ·rw [if_pos c82] at H
         have c82b0 : decide (0 ≤ x29_2) = true := decide_eq_true c82
         clear c82
         by_cases c83 : x29_2 < (t417.length : Int)
         ·rw [if_pos c83] at H
          have c83b0 : decide (x29_2 < (t417.length : Int)) = true := decide_eq_true c83
          clear c83
          replace H := Option.bind_eq_some_iff.mp H
          obtain ⟨t425, A840, H⟩ := H
          replace H : (if t425 = true then (columbariumlaw7_DictTells.l0 k2 t363 l3 a4 t382 t408 t417 (wrap64 (x29_2 + 1))) else (some false)) = some r := H
          have A84 := Aside0.mk A840
          clear A840
          by_cases c85 : t425 = true
          ·subst c85
           have H1 : (columbariumlaw7_DictTells.l0 k2 t363 l3 a4 t382 t408 t417 (wrap64 (x29_2 + 1))) = some r := by rw [if_pos rfl] at H; exact H
           clear H
           have H := H1
           clear H1
           have H' := Aside0.mk H
           clear H
           obtain ⟨Ao86, co86, eo86⟩ := Kd.N_slice HO_26.out
           subst eo86
           have p423 : 0 ≤ (x29_2 : Int) := of_decide_eq_true (by first | (with_reducible assumption) | assumption)
           have q423 : x29_2 < (t408.length : Int) := of_decide_eq_true (by first | (with_reducible assumption) | assumption)
           obtain ⟨ad423, A423_0, c423_0, e423, hx423_0, hl423_0, hi423_0⟩ := at_L3 (Kd.N_reads' HO_26.out).2.2 x29_2 p423 q423
           cases e423
           obtain ⟨ce423, hce423, hMe423, hcc423⟩ := Kd.N_get HO_26.out [] x29_2 p423 (by first | exact q423 | exact of_decide_eq_true (by first | (with_reducible assumption) | assumption) | (have e_ := (Kd.N_reads' HO_26.out).1; omega))
           obtain ⟨ua423_0, uc423_0, rfl, ul423_0, ge423_0⟩ := Kd.FK_slice_open hMe423
           have hv423_0 := hcc423 0 _ rfl
           rw [Nat.add_zero, show ((Kd.slice 3 (Kd.int .i64))).sz = 1 from rfl, Nat.mul_one] at hv423_0
           replace hv423_0 := Option.some.inj (hv423_0.symm.trans hx423_0)
           injection hv423_0 with hva_ hvn_ hvc_
           rw [hva_] at ge423_0
           rw [hvc_] at ul423_0
           have HL423_0 := Aside0.mk (show Kd.V (Kd.int .i64) 3 _ w.heap.size _ _ (rd_L3 t408 x29_2) from Kd.V_mk ul423_0 ge423_0)
           clear hva_ hvn_ hvc_ ge423_0 ul423_0
           clear hcc423 hce423
           have HR423_0 := Aside0.mk hi423_0
           have HC423_0 := Aside0.mk hl423_0
           clear hi423_0 hl423_0
           replace p423 := eq_true p423
           replace q423 := eq_true q423
           obtain ⟨Ao87, co87, eo87⟩ := Kd.N_slice HO_28.out
           subst eo87
           have p424 : 0 ≤ (x29_2 : Int) := of_decide_eq_true (by first | (with_reducible assumption) | assumption)
           have q424 : x29_2 < (t417.length : Int) := of_decide_eq_true (by first | (with_reducible assumption) | assumption)
           obtain ⟨ad424, A424_0, c424_0, e424, hx424_0, hl424_0, hi424_0⟩ := at_L3 (Kd.N_reads' HO_28.out).2.2 x29_2 p424 q424
           cases e424
           obtain ⟨ce424, hce424, hMe424, hcc424⟩ := Kd.N_get HO_28.out [] x29_2 p424 (by first | exact q424 | exact of_decide_eq_true (by first | (with_reducible assumption) | assumption) | (have e_ := (Kd.N_reads' HO_28.out).1; omega))
           obtain ⟨ua424_0, uc424_0, rfl, ul424_0, ge424_0⟩ := Kd.FK_slice_open hMe424
           have hv424_0 := hcc424 0 _ rfl
           rw [Nat.add_zero, show ((Kd.slice 3 (Kd.int .i64))).sz = 1 from rfl, Nat.mul_one] at hv424_0
           replace hv424_0 := Option.some.inj (hv424_0.symm.trans hx424_0)
           injection hv424_0 with hva_ hvn_ hvc_
           rw [hva_] at ge424_0
           rw [hvc_] at ul424_0
           have HL424_0 := Aside0.mk (show Kd.V (Kd.int .i64) 3 _ w.heap.size _ _ (rd_L3 t417 x29_2) from Kd.V_mk ul424_0 ge424_0)
           clear hva_ hvn_ hvc_ ge424_0 ul424_0
           clear hcc424 hce424
           have HR424_0 := Aside0.mk hi424_0
           have HC424_0 := Aside0.mk hl424_0
           clear hi424_0 hl424_0
           replace p424 := eq_true p424
           replace q424 := eq_true q424
           go_wp2_with (first | (go_at_call 24; (with_reducible refine (columbariumbook_Same_int.calls k2 _ _ (rd_L3 t408 x29_2) _ _ (rd_L3 t417 x29_2) true _ ?side1 ?side2 ?side3 ?side4 A84.out).mono ?_); (case side1 => repeat (first | exact (by repeat (first | (with_reducible exact HR423_0.out) | (with_reducible refine Kd.C_alloc ?_ _) | (with_reducible refine Kd.C_drewN ?_ _) | (with_reducible refine Kd.C_drew ?_) | exact HR423_0.out)) | (with_reducible refine Kd.C_alloc ?_ _) | (with_reducible refine Kd.C_drewN ?_ _) | (with_reducible refine Kd.C_drew ?_))); (case side2 => exact HC423_0.out); (case side3 => repeat (first | exact (by repeat (first | (with_reducible exact HR424_0.out) | (with_reducible refine Kd.C_alloc ?_ _) | (with_reducible refine Kd.C_drewN ?_ _) | (with_reducible refine Kd.C_drew ?_) | exact HR424_0.out)) | (with_reducible refine Kd.C_alloc ?_ _) | (with_reducible refine Kd.C_drewN ?_ _) | (with_reducible refine Kd.C_drew ?_))); (case side4 => exact HC424_0.out); rintro e w' ⟨rfl, ⟨nd, rfl⟩⟩; (try first | exact ⟨rfl, _, World.drewN_drewN _ _ _⟩ | exact ⟨rfl, _, Eq.trans (World.drewN_drewN _ _ _) (congrArg (World.drewN _) (Nat.add_assoc _ _ _))⟩)))
           repeat (go_quiet (first | (go_at_call 24; (with_reducible refine (columbariumbook_Same_int.calls k2 _ _ (rd_L3 t408 x29_2) _ _ (rd_L3 t417 x29_2) true _ ?side1 ?side2 ?side3 ?side4 A84.out).mono ?_); (case side1 => repeat (first | exact (by repeat (first | (with_reducible exact HR423_0.out) | (with_reducible refine Kd.C_alloc ?_ _) | (with_reducible refine Kd.C_drewN ?_ _) | (with_reducible refine Kd.C_drew ?_) | exact HR423_0.out)) | (with_reducible refine Kd.C_alloc ?_ _) | (with_reducible refine Kd.C_drewN ?_ _) | (with_reducible refine Kd.C_drew ?_))); (case side2 => exact HC423_0.out); (case side3 => repeat (first | exact (by repeat (first | (with_reducible exact HR424_0.out) | (with_reducible refine Kd.C_alloc ?_ _) | (with_reducible refine Kd.C_drewN ?_ _) | (with_reducible refine Kd.C_drew ?_) | exact HR424_0.out)) | (with_reducible refine Kd.C_alloc ?_ _) | (with_reducible refine Kd.C_drewN ?_ _) | (with_reducible refine Kd.C_drew ?_))); (case side4 => exact HC424_0.out); rintro e w' ⟨rfl, ⟨nd, rfl⟩⟩; (try first | exact ⟨rfl, _, World.drewN_drewN _ _ _⟩ | exact ⟨rfl, _, Eq.trans (World.drewN_drewN _ _ _) (congrArg (World.drewN _) (Nat.add_assoc _ _ _))⟩))); try go_wp2_with (first | (go_at_call 24; (with_reducible refine (columbariumbook_Same_int.calls k2 _ _ (rd_L3 t408 x29_2) _ _ (rd_L3 t417 x29_2) true _ ?side1 ?side2 ?side3 ?side4 A84.out).mono ?_); (case side1 => repeat (first | exact (by repeat (first | (with_reducible exact HR423_0.out) | (with_reducible refine Kd.C_alloc ?_ _) | (with_reducible refine Kd.C_drewN ?_ _) | (with_reducible refine Kd.C_drew ?_) | exact HR423_0.out)) | (with_reducible refine Kd.C_alloc ?_ _) | (with_reducible refine Kd.C_drewN ?_ _) | (with_reducible refine Kd.C_drew ?_))); (case side2 => exact HC423_0.out); (case side3 => repeat (first | exact (by repeat (first | (with_reducible exact HR424_0.out) | (with_reducible refine Kd.C_alloc ?_ _) | (with_reducible refine Kd.C_drewN ?_ _) | (with_reducible refine Kd.C_drew ?_) | exact HR424_0.out)) | (with_reducible refine Kd.C_alloc ?_ _) | (with_reducible refine Kd.C_drewN ?_ _) | (with_reducible refine Kd.C_drew ?_))); (case side4 => exact HC424_0.out); rintro e w' ⟨rfl, ⟨nd, rfl⟩⟩; (try first | exact ⟨rfl, _, World.drewN_drewN _ _ _⟩ | exact ⟨rfl, _, Eq.trans (World.drewN_drewN _ _ _) (congrArg (World.drewN _) (Nat.add_assoc _ _ _))⟩))))
           go_roundg k2
           case measure => have := HJ18.out; have := HK2.out; omega
           case rel => exact ⟨(wrap64 (x29_2 + 1)), (by first | rfl | (simp; done) | (simp [*]; done)), H', ⟨by have := HJ18.out; have := HK2.out; omega⟩, ⟨mR HO_0.out⟩, ⟨mV HO_3.out⟩, ⟨mV HO_13.out⟩, ⟨mN HO_26.out⟩, ⟨mN HO_28.out⟩, ⟨mB HB.out⟩⟩
          ·replace c85 := Bool.eq_false_iff.mpr c85
           subst c85
           have H1 : (some false) = some r := by rw [if_neg (show ¬ (false = true) by decide)] at H; exact H
           clear H
           have H := H1
           clear H1
           exact absurd ((Option.some.inj H).trans hrt_.out) (by decide)
         ·rw [if_neg c83] at H
          exact absurd H (by simp)
        ·rw [if_neg c82] at H
         exact absurd H (by simp)
       ·rw [if_neg c81] at H
        have c81b0 : decide (x29_2 < (t408.length : Int)) = false := decide_eq_false c81
        clear c81
        obtain ⟨y426, hy426⟩ : ∃ y_ : List (List ByteArray), y_ = (([t363, t382] : List (List ByteArray))) := ⟨_, rfl⟩
        replace H : (columbariumlaw7_DictTells.l1 k2 l3 a4 y426 (y426.length : Int) 0) = some r := by first | (rw [hy426]; with_reducible exact H) | (have H2_ := (Option.bind_some _ _).symm.trans H; rw [hy426]; with_reducible exact H2_) | (have H2_ := (Option.bind_some _ _).symm.trans H; with_reducible exact H2_) | with_reducible exact H | (rw [hy426]; exact H) | exact H
        have Ny426 := Aside0.mk hy426
        clear hy426
        have H' := Aside0.mk H
        clear H
        obtain ⟨Ao88, co88, eo88⟩ := Kd.N_slice HO_26.out
        subst eo88
        go_wp2_with (first | ((with_reducible refine gate_dst (N := 165) rfl ?_); (try (refine gate_guard (by rfl) ?_; dsimp only)); refine Kd.N_lit (Kd.slice 9 Kd.string) _ 22 ?hg (N' := 165) ?hd (xs := ([t363, t382] : List (List ByteArray))) (inner := [.slice Ao27 t363.length co27, .slice Ao32 t382.length co32]) (ok := (fun k_ => (P3_ k_ ∨ w.heap.size ≤ k_) ∧ some k_ ≠ (.slice Ao88 t408.length co88 : Value).ownBlock ∧ some k_ ≠ (v418 : Value).ownBlock)) (okp := (fun k_ => (P3_ k_ ∨ w.heap.size ≤ k_) ∧ some k_ ≠ (.slice Ao88 t408.length co88 : Value).ownBlock ∧ some k_ ≠ (v418 : Value).ownBlock)) ?hr ?hp (fun _ hk => hk) ((show ∀ k_, wr.heap.size ≤ k_ → (fun k_ => (P3_ k_ ∨ w.heap.size ≤ k_) ∧ some k_ ≠ (.slice Ao88 t408.length co88 : Value).ownBlock ∧ some k_ ≠ (v418 : Value).ownBlock) k_ from fun k_ hk => ⟨(.inr (Nat.le_trans (below_size (mB HB.out)) hk)), Kd.fresh' (Kd.N_lt (mN HO_26.out)) k_ hk, Kd.fresh' (Kd.N_lt (mN HO_28.out)) k_ hk⟩) _ (Nat.le_refl _)) (Below.refl _ _) (Nat.le_refl _) (by simp) ?_; (case hd => rfl); (case hg => rfl); (case hr => first | (go_simp; done) | (go_simp; rfl)); (case hp => exact (Reps.one (show Kd.FK (Kd.slice 9 Kd.string) _ _ t363 [.slice Ao27 t363.length co27] from (Kd.FK_slice_mk (Kd.R_reads' (Kd.R_mono (ok' := (fun k_ => (P3_ k_ ∨ w.heap.size ≤ k_) ∧ some k_ ≠ (.slice Ao88 t408.length co88 : Value).ownBlock ∧ some k_ ≠ (v418 : Value).ownBlock)) (Kd.R_apart' (Kd.R_apart' (HO_0.out) (Kd.N_typed HO_26.out) (by decide)) (Kd.N_typed HO_28.out) (by decide)) (fun k_ hk => ⟨(.inr (hk.1.1)), ⟨hk.1.2, hk.2⟩⟩))).2.1 (Kd.R_F (by (with_reducible repeat (first | apply Kd.R_alloc | apply Kd.R_drewN | apply Kd.R_drew)); exact (Kd.R_mono (ok' := (fun k_ => (P3_ k_ ∨ w.heap.size ≤ k_) ∧ some k_ ≠ (.slice Ao88 t408.length co88 : Value).ownBlock ∧ some k_ ≠ (v418 : Value).ownBlock)) (Kd.R_apart' (Kd.R_apart' (HO_0.out) (Kd.N_typed HO_26.out) (by decide)) (Kd.N_typed HO_28.out) (by decide)) (fun k_ hk => ⟨(.inr (hk.1.1)), ⟨hk.1.2, hk.2⟩⟩)))))) (Reps.one (show Kd.FK (Kd.slice 9 Kd.string) _ _ t382 [.slice Ao32 t382.length co32] from (Kd.FK_slice_mk (Kd.V_reads' (Kd.V_mono (ok' := (fun k_ => (P3_ k_ ∨ w.heap.size ≤ k_) ∧ some k_ ≠ (.slice Ao88 t408.length co88 : Value).ownBlock ∧ some k_ ≠ (v418 : Value).ownBlock)) (HO_13.out) (fun k_ hk => ⟨hk.1, ⟨hk.2.2.1, hk.2.2.2⟩⟩))).2.1 (Kd.V_F (by (with_reducible repeat (first | apply Kd.V_alloc | apply Kd.V_drewN | apply Kd.V_drew)); exact (Kd.V_mono (ok' := (fun k_ => (P3_ k_ ∨ w.heap.size ≤ k_) ∧ some k_ ≠ (.slice Ao88 t408.length co88 : Value).ownBlock ∧ some k_ ≠ (v418 : Value).ownBlock)) (HO_13.out) (fun k_ hk => ⟨hk.1, ⟨hk.2.2.1, hk.2.2.2⟩⟩)))))) (Reps.none _ _)))); intro v427 w89 ho90 hb hg_ hnew_; clear hg_ hnew_; (first | rw [← Ny426.out] at ho90 | (simp only [Int.reduceToNat] at ho90; rw [← Ny426.out] at ho90)); have n0_ := Aside0.mk (Kd.V_elder' (mV HO_3.out) (Kd.N_base ho90) hb); have n1_ := Aside0.mk (Kd.V_elder' (mV HO_13.out) (Kd.N_base ho90) hb); have n2_ := Aside0.mk (Kd.N_elder' (mN HO_26.out) (Kd.N_base ho90) hb); have n3_ := Aside0.mk (Kd.N_elder' (mN HO_28.out) (Kd.N_base ho90) hb); have n4_ := Aside0.mk (Kd.N_lower ho90 (below_size (mB HB.out))); have n5_ := Aside0.mk (below_step (mB HB.out) hb); clear HO_3; clear HO_13; clear HO_26; clear HO_28; clear HB; clear HO_0; have HO_3 := n0_; have HO_13 := n1_; have HO_26 := n2_; have HO_28 := n3_; have HO428 := n4_; have HB := n5_; clear n0_ n1_ n2_ n3_ n4_ n5_; clear hb ho90; obtain ⟨Ao91, co91, eo91⟩ := Kd.N_slice HO428.out; subst eo91))
        repeat (go_quiet (first | ((with_reducible refine gate_dst (N := 165) rfl ?_); (try (refine gate_guard (by rfl) ?_; dsimp only)); refine Kd.N_lit (Kd.slice 9 Kd.string) _ 22 ?hg (N' := 165) ?hd (xs := ([t363, t382] : List (List ByteArray))) (inner := [.slice Ao27 t363.length co27, .slice Ao32 t382.length co32]) (ok := (fun k_ => (P3_ k_ ∨ w.heap.size ≤ k_) ∧ some k_ ≠ (.slice Ao88 t408.length co88 : Value).ownBlock ∧ some k_ ≠ (v418 : Value).ownBlock)) (okp := (fun k_ => (P3_ k_ ∨ w.heap.size ≤ k_) ∧ some k_ ≠ (.slice Ao88 t408.length co88 : Value).ownBlock ∧ some k_ ≠ (v418 : Value).ownBlock)) ?hr ?hp (fun _ hk => hk) ((show ∀ k_, wr.heap.size ≤ k_ → (fun k_ => (P3_ k_ ∨ w.heap.size ≤ k_) ∧ some k_ ≠ (.slice Ao88 t408.length co88 : Value).ownBlock ∧ some k_ ≠ (v418 : Value).ownBlock) k_ from fun k_ hk => ⟨(.inr (Nat.le_trans (below_size (mB HB.out)) hk)), Kd.fresh' (Kd.N_lt (mN HO_26.out)) k_ hk, Kd.fresh' (Kd.N_lt (mN HO_28.out)) k_ hk⟩) _ (Nat.le_refl _)) (Below.refl _ _) (Nat.le_refl _) (by simp) ?_; (case hd => rfl); (case hg => rfl); (case hr => first | (go_simp; done) | (go_simp; rfl)); (case hp => exact (Reps.one (show Kd.FK (Kd.slice 9 Kd.string) _ _ t363 [.slice Ao27 t363.length co27] from (Kd.FK_slice_mk (Kd.R_reads' (Kd.R_mono (ok' := (fun k_ => (P3_ k_ ∨ w.heap.size ≤ k_) ∧ some k_ ≠ (.slice Ao88 t408.length co88 : Value).ownBlock ∧ some k_ ≠ (v418 : Value).ownBlock)) (Kd.R_apart' (Kd.R_apart' (HO_0.out) (Kd.N_typed HO_26.out) (by decide)) (Kd.N_typed HO_28.out) (by decide)) (fun k_ hk => ⟨(.inr (hk.1.1)), ⟨hk.1.2, hk.2⟩⟩))).2.1 (Kd.R_F (by (with_reducible repeat (first | apply Kd.R_alloc | apply Kd.R_drewN | apply Kd.R_drew)); exact (Kd.R_mono (ok' := (fun k_ => (P3_ k_ ∨ w.heap.size ≤ k_) ∧ some k_ ≠ (.slice Ao88 t408.length co88 : Value).ownBlock ∧ some k_ ≠ (v418 : Value).ownBlock)) (Kd.R_apart' (Kd.R_apart' (HO_0.out) (Kd.N_typed HO_26.out) (by decide)) (Kd.N_typed HO_28.out) (by decide)) (fun k_ hk => ⟨(.inr (hk.1.1)), ⟨hk.1.2, hk.2⟩⟩)))))) (Reps.one (show Kd.FK (Kd.slice 9 Kd.string) _ _ t382 [.slice Ao32 t382.length co32] from (Kd.FK_slice_mk (Kd.V_reads' (Kd.V_mono (ok' := (fun k_ => (P3_ k_ ∨ w.heap.size ≤ k_) ∧ some k_ ≠ (.slice Ao88 t408.length co88 : Value).ownBlock ∧ some k_ ≠ (v418 : Value).ownBlock)) (HO_13.out) (fun k_ hk => ⟨hk.1, ⟨hk.2.2.1, hk.2.2.2⟩⟩))).2.1 (Kd.V_F (by (with_reducible repeat (first | apply Kd.V_alloc | apply Kd.V_drewN | apply Kd.V_drew)); exact (Kd.V_mono (ok' := (fun k_ => (P3_ k_ ∨ w.heap.size ≤ k_) ∧ some k_ ≠ (.slice Ao88 t408.length co88 : Value).ownBlock ∧ some k_ ≠ (v418 : Value).ownBlock)) (HO_13.out) (fun k_ hk => ⟨hk.1, ⟨hk.2.2.1, hk.2.2.2⟩⟩)))))) (Reps.none _ _)))); intro v427 w89 ho90 hb hg_ hnew_; clear hg_ hnew_; (first | rw [← Ny426.out] at ho90 | (simp only [Int.reduceToNat] at ho90; rw [← Ny426.out] at ho90)); have n0_ := Aside0.mk (Kd.V_elder' (mV HO_3.out) (Kd.N_base ho90) hb); have n1_ := Aside0.mk (Kd.V_elder' (mV HO_13.out) (Kd.N_base ho90) hb); have n2_ := Aside0.mk (Kd.N_elder' (mN HO_26.out) (Kd.N_base ho90) hb); have n3_ := Aside0.mk (Kd.N_elder' (mN HO_28.out) (Kd.N_base ho90) hb); have n4_ := Aside0.mk (Kd.N_lower ho90 (below_size (mB HB.out))); have n5_ := Aside0.mk (below_step (mB HB.out) hb); clear HO_3; clear HO_13; clear HO_26; clear HO_28; clear HB; clear HO_0; have HO_3 := n0_; have HO_13 := n1_; have HO_26 := n2_; have HO_28 := n3_; have HO428 := n4_; have HB := n5_; clear n0_ n1_ n2_ n3_ n4_ n5_; clear hb ho90; obtain ⟨Ao91, co91, eo91⟩ := Kd.N_slice HO428.out; subst eo91)); try go_wp2_with (first | ((with_reducible refine gate_dst (N := 165) rfl ?_); (try (refine gate_guard (by rfl) ?_; dsimp only)); refine Kd.N_lit (Kd.slice 9 Kd.string) _ 22 ?hg (N' := 165) ?hd (xs := ([t363, t382] : List (List ByteArray))) (inner := [.slice Ao27 t363.length co27, .slice Ao32 t382.length co32]) (ok := (fun k_ => (P3_ k_ ∨ w.heap.size ≤ k_) ∧ some k_ ≠ (.slice Ao88 t408.length co88 : Value).ownBlock ∧ some k_ ≠ (v418 : Value).ownBlock)) (okp := (fun k_ => (P3_ k_ ∨ w.heap.size ≤ k_) ∧ some k_ ≠ (.slice Ao88 t408.length co88 : Value).ownBlock ∧ some k_ ≠ (v418 : Value).ownBlock)) ?hr ?hp (fun _ hk => hk) ((show ∀ k_, wr.heap.size ≤ k_ → (fun k_ => (P3_ k_ ∨ w.heap.size ≤ k_) ∧ some k_ ≠ (.slice Ao88 t408.length co88 : Value).ownBlock ∧ some k_ ≠ (v418 : Value).ownBlock) k_ from fun k_ hk => ⟨(.inr (Nat.le_trans (below_size (mB HB.out)) hk)), Kd.fresh' (Kd.N_lt (mN HO_26.out)) k_ hk, Kd.fresh' (Kd.N_lt (mN HO_28.out)) k_ hk⟩) _ (Nat.le_refl _)) (Below.refl _ _) (Nat.le_refl _) (by simp) ?_; (case hd => rfl); (case hg => rfl); (case hr => first | (go_simp; done) | (go_simp; rfl)); (case hp => exact (Reps.one (show Kd.FK (Kd.slice 9 Kd.string) _ _ t363 [.slice Ao27 t363.length co27] from (Kd.FK_slice_mk (Kd.R_reads' (Kd.R_mono (ok' := (fun k_ => (P3_ k_ ∨ w.heap.size ≤ k_) ∧ some k_ ≠ (.slice Ao88 t408.length co88 : Value).ownBlock ∧ some k_ ≠ (v418 : Value).ownBlock)) (Kd.R_apart' (Kd.R_apart' (HO_0.out) (Kd.N_typed HO_26.out) (by decide)) (Kd.N_typed HO_28.out) (by decide)) (fun k_ hk => ⟨(.inr (hk.1.1)), ⟨hk.1.2, hk.2⟩⟩))).2.1 (Kd.R_F (by (with_reducible repeat (first | apply Kd.R_alloc | apply Kd.R_drewN | apply Kd.R_drew)); exact (Kd.R_mono (ok' := (fun k_ => (P3_ k_ ∨ w.heap.size ≤ k_) ∧ some k_ ≠ (.slice Ao88 t408.length co88 : Value).ownBlock ∧ some k_ ≠ (v418 : Value).ownBlock)) (Kd.R_apart' (Kd.R_apart' (HO_0.out) (Kd.N_typed HO_26.out) (by decide)) (Kd.N_typed HO_28.out) (by decide)) (fun k_ hk => ⟨(.inr (hk.1.1)), ⟨hk.1.2, hk.2⟩⟩)))))) (Reps.one (show Kd.FK (Kd.slice 9 Kd.string) _ _ t382 [.slice Ao32 t382.length co32] from (Kd.FK_slice_mk (Kd.V_reads' (Kd.V_mono (ok' := (fun k_ => (P3_ k_ ∨ w.heap.size ≤ k_) ∧ some k_ ≠ (.slice Ao88 t408.length co88 : Value).ownBlock ∧ some k_ ≠ (v418 : Value).ownBlock)) (HO_13.out) (fun k_ hk => ⟨hk.1, ⟨hk.2.2.1, hk.2.2.2⟩⟩))).2.1 (Kd.V_F (by (with_reducible repeat (first | apply Kd.V_alloc | apply Kd.V_drewN | apply Kd.V_drew)); exact (Kd.V_mono (ok' := (fun k_ => (P3_ k_ ∨ w.heap.size ≤ k_) ∧ some k_ ≠ (.slice Ao88 t408.length co88 : Value).ownBlock ∧ some k_ ≠ (v418 : Value).ownBlock)) (HO_13.out) (fun k_ hk => ⟨hk.1, ⟨hk.2.2.1, hk.2.2.2⟩⟩)))))) (Reps.none _ _)))); intro v427 w89 ho90 hb hg_ hnew_; clear hg_ hnew_; (first | rw [← Ny426.out] at ho90 | (simp only [Int.reduceToNat] at ho90; rw [← Ny426.out] at ho90)); have n0_ := Aside0.mk (Kd.V_elder' (mV HO_3.out) (Kd.N_base ho90) hb); have n1_ := Aside0.mk (Kd.V_elder' (mV HO_13.out) (Kd.N_base ho90) hb); have n2_ := Aside0.mk (Kd.N_elder' (mN HO_26.out) (Kd.N_base ho90) hb); have n3_ := Aside0.mk (Kd.N_elder' (mN HO_28.out) (Kd.N_base ho90) hb); have n4_ := Aside0.mk (Kd.N_lower ho90 (below_size (mB HB.out))); have n5_ := Aside0.mk (below_step (mB HB.out) hb); clear HO_3; clear HO_13; clear HO_26; clear HO_28; clear HB; clear HO_0; have HO_3 := n0_; have HO_13 := n1_; have HO_26 := n2_; have HO_28 := n3_; have HO428 := n4_; have HB := n5_; clear n0_ n1_ n2_ n3_ n4_ n5_; clear hb ho90; obtain ⟨Ao91, co91, eo91⟩ := Kd.N_slice HO428.out; subst eo91)))
        go_loopg [3, 167] k2 (fun kq v3 v167 w' => ∃ (x3_3 : List Int) (x167_3 : Int), v167 = .int .i64 x167_3 ∧ Aside0 (columbariumlaw7_DictTells.l1 kq x3_3 a4 y426 (y426.length : Int) x167_3 = some r) ∧ Aside0 (kq ≤ k2) ∧ Aside0 (Kd.V (Kd.int .u8) 5 w' w.heap.size (fun k_ => (P3_ k_ ∨ w.heap.size ≤ k_) ∧ some k_ ≠ ((.slice Ao91 y426.length co91) : Value).ownBlock) v3 x3_3) ∧ Aside0 (Kd.N (Kd.slice 9 Kd.string) 22 w' w.heap.size (fun k_ => (P3_ k_ ∨ w.heap.size ≤ k_)) (.slice Ao91 y426.length co91) y426) ∧ Aside0 (Below w.heap.size w w'))
        case atStart => exact ⟨(l3), (0), (by first | rfl | (simp; done) | (simp [*]; done)), H', ⟨Nat.le_refl _⟩, ⟨by (with_reducible repeat (first | apply Kd.V_alloc | apply Kd.V_drewN | apply Kd.V_drew)); exact Kd.V_mono HO_3.out (fun _ hk => ⟨hk.1.1, hk.2⟩)⟩, ⟨by (with_reducible repeat (first | apply Kd.N_alloc | apply Kd.N_drewN | apply Kd.N_drew)); exact Kd.N_mono HO428.out (fun _ hk => hk.1)⟩, ⟨mB HB.out⟩⟩
        case round =>
         clear H'
         try clear c1
         try clear p2
         try clear c3
         try clear p3
         try clear q3
         try clear hx3
         try clear qi3
         try clear c4
         try clear p4
         try clear q4
         try clear hx4
         try clear c5
         try clear p6
         try clear c7
         try clear c8
         try clear c9
         try clear c9b0
         try clear c9b1
         try clear p37
         try clear q37
         try clear hx37
         try clear qi37
         try clear c42
         try clear p42
         try clear q42
         try clear hx42
         try clear c43
         try clear c45
         try clear c46
         try clear c46b0
         try clear c46b1
         try clear c47
         try clear c47b0
         try clear c47b1
         try clear c47b2
         try clear c51
         try clear c51b0
         try clear c51b1
         try clear c52
         try clear c52b0
         try clear c52b1
         try clear c54
         try clear p64
         try clear c80
         try clear c81
         try clear c81b0
         try clear c82
         try clear c82b0
         try clear c83
         try clear c83b0
         try clear c85
         try clear hx375_0
         try clear hx423_0
         try clear hx424_0
         try clear p2
         try clear p3
         try clear p37
         try clear p375
         try clear p423
         try clear p424
         try clear q3
         try clear q37
         try clear q375
         try clear q423
         try clear q424
         obtain ⟨x3_3, x167_3, rfl, HA, HK3, HO_3, HO_165, HB⟩ := hrel
         cases gk with
         | zero => exact absurd HA.out (by simp [columbariumlaw7_DictTells.l1])
         | succ k3 =>
          have H := HA.out
          clear HA
          simp only [columbariumlaw7_DictTells.l1] at H
          by_cases c92 : x167_3 < (y426.length : Int)
          ·rw [if_pos c92] at H
           have c92b0 : decide (x167_3 < (y426.length : Int)) = true := decide_eq_true c92
           clear c92
           by_cases c93 : 0 ≤ x167_3
           ·rw [if_pos c93] at H
            have c93b0 : decide (0 ≤ x167_3) = true := decide_eq_true c93
            clear c93
            by_cases c94 : x167_3 < (y426.length : Int)
            ·rw [if_pos c94] at H
             have c94b0 : decide (x167_3 < (y426.length : Int)) = true := decide_eq_true c94
             clear c94
             replace H := Option.bind_eq_some_iff.mp H
             obtain ⟨⟨t431, t432⟩, A950, H⟩ := H
             replace H : ((columbariumref7_Encode.f k3 (rd_L2 y426 x167_3)).bind fun bt435 => (if (strOfNums t431).toList = (strOfNums bt435.1).toList then (if t432 = bt435.2 then ((dict_Fits.f k3 (rd_L2 y426 x167_3)).bind fun t439 => ((columbariumref7_Fits.f k3 (rd_L2 y426 x167_3)).bind fun t440 => (columbariumlaw7_DictTells.j3 k3 x3_3 a4 bt435.1 y426 (y426.length : Int) x167_3 (t439 != t440)))) else (columbariumlaw7_DictTells.j3 k3 x3_3 a4 bt435.1 y426 (y426.length : Int) x167_3 true)) else (columbariumlaw7_DictTells.j3 k3 x3_3 a4 bt435.1 y426 (y426.length : Int) x167_3 true))) = some r := H
             have A95 := Aside0.mk A950
             clear A950
             replace H := Option.bind_eq_some_iff.mp H
             obtain ⟨⟨t435, t436⟩, A960, H⟩ := H
             replace H : (if (strOfNums t431).toList = (strOfNums t435).toList then (if t432 = t436 then ((dict_Fits.f k3 (rd_L2 y426 x167_3)).bind fun t439 => ((columbariumref7_Fits.f k3 (rd_L2 y426 x167_3)).bind fun t440 => (columbariumlaw7_DictTells.j3 k3 x3_3 a4 t435 y426 (y426.length : Int) x167_3 (t439 != t440)))) else (columbariumlaw7_DictTells.j3 k3 x3_3 a4 t435 y426 (y426.length : Int) x167_3 true)) else (columbariumlaw7_DictTells.j3 k3 x3_3 a4 t435 y426 (y426.length : Int) x167_3 true)) = some r := H
             have A96 := Aside0.mk A960
             clear A960
             have HC97 := Aside0.mk H
             clear H
             have p430 : 0 ≤ (x167_3 : Int) := of_decide_eq_true (by first | (with_reducible assumption) | assumption)
             have q430 : x167_3 < (y426.length : Int) := of_decide_eq_true (by first | (with_reducible assumption) | assumption)
             obtain ⟨ad430, A430_0, c430_0, e430, hx430_0, hl430_0, hi430_0⟩ := at_L2 (Kd.N_reads' HO_165.out).2.2 x167_3 p430 q430
             cases e430
             obtain ⟨ce430, hce430, hMe430, hcc430⟩ := Kd.N_get HO_165.out [] x167_3 p430 (by first | exact q430 | exact of_decide_eq_true (by first | (with_reducible assumption) | assumption) | (have e_ := (Kd.N_reads' HO_165.out).1; omega))
             obtain ⟨ua430_0, uc430_0, rfl, ul430_0, ge430_0⟩ := Kd.FK_slice_open hMe430
             have hv430_0 := hcc430 0 _ rfl
             rw [Nat.add_zero, show ((Kd.slice 9 Kd.string)).sz = 1 from rfl, Nat.mul_one] at hv430_0
             replace hv430_0 := Option.some.inj (hv430_0.symm.trans hx430_0)
             injection hv430_0 with hva_ hvn_ hvc_
             rw [hva_] at ge430_0
             rw [hvc_] at ul430_0
             have HL430_0 := Aside0.mk (show Kd.V Kd.string 9 _ w.heap.size _ _ (rd_L2 y426 x167_3) from Kd.V_mk ul430_0 ge430_0)
             clear hva_ hvn_ hvc_ ge430_0 ul430_0
             clear hcc430 hce430
             have HR430_0 := Aside0.mk hi430_0
             have HC430_0 := Aside0.mk hl430_0
             clear hi430_0 hl430_0
             replace p430 := eq_true p430
             replace q430 := eq_true q430
             go_upto_region 25 with (first | (go_at_call 17; (with_reducible refine (dict_Encode.calls k3 _ _ (rd_L2 y426 x167_3) t431 t432 _ ?side1 ?side2 A95.out).mono ?_); (case side1 => repeat (first | exact (by repeat (first | (with_reducible exact HR430_0.out) | (with_reducible refine Kd.C_alloc ?_ _) | (with_reducible refine Kd.C_drewN ?_ _) | (with_reducible refine Kd.C_drew ?_) | exact HR430_0.out)) | (with_reducible refine Kd.C_alloc ?_ _) | (with_reducible refine Kd.C_drewN ?_ _) | (with_reducible refine Kd.C_drew ?_))); (case side2 => exact HC430_0.out); rintro e w98 ⟨v433, rfl, ho0, hb⟩; have n0_ := Aside0.mk (Kd.V_elder' (mV HO_3.out) (Kd.R_base ho0) hb); have n1_ := Aside0.mk (Kd.N_elder' (mN HO_165.out) (Kd.R_base ho0) hb); have n2_ := Aside0.mk (Kd.V_elder' (mV HL430_0.out) (Kd.R_base ho0) hb); have n3_ := Aside0.mk (Kd.R_lower (Kd.R_newM (M := fun k_ => (w.heap.size ≤ k_)) ho0 (below_size (mB HB.out)) (fun k_ h_ => h_)) (below_size (mB HB.out))); have n4_ := Aside0.mk (Kd.C_below (by repeat (first | (with_reducible exact HR430_0.out) | (with_reducible refine Kd.C_alloc ?_ _) | (with_reducible refine Kd.C_drewN ?_ _) | (with_reducible refine Kd.C_drew ?_) | exact HR430_0.out)) hb); have n5_ := Aside0.mk (below_step (mB HB.out) hb); clear HO_3; clear HO_165; clear HL430_0; clear HR430_0; clear HB; have HO_3 := n0_; have HO_165 := n1_; have HL430_0 := n2_; have HO434 := n3_; have HR430_0 := n4_; have HB := n5_; clear n0_ n1_ n2_ n3_ n4_ n5_; (try clear hb); (try clear hb2); (try clear hk); (try clear hi); (try clear ho0)) | (go_at_call 25; (with_reducible refine (columbariumref7_Encode.calls k3 _ _ (rd_L2 y426 x167_3) t435 t436 _ ?side1 ?side2 A96.out).mono ?_); (case side1 => repeat (first | exact (by repeat (first | (with_reducible exact HR430_0.out) | (with_reducible refine Kd.C_alloc ?_ _) | (with_reducible refine Kd.C_drewN ?_ _) | (with_reducible refine Kd.C_drew ?_) | exact HR430_0.out)) | (with_reducible refine Kd.C_alloc ?_ _) | (with_reducible refine Kd.C_drewN ?_ _) | (with_reducible refine Kd.C_drew ?_))); (case side2 => exact HC430_0.out); rintro e w99 ⟨v437, rfl, ho0, hb⟩; have n0_ := Aside0.mk (Kd.V_elder' (mV HO_3.out) (Kd.R_base ho0) hb); have n1_ := Aside0.mk (Kd.N_elder' (mN HO_165.out) (Kd.R_base ho0) hb); have n2_ := Aside0.mk (Kd.V_elder' (mV HL430_0.out) (Kd.R_base ho0) hb); have n3_ := Aside0.mk (Kd.R_elder' (mR HO434.out) (Kd.R_base ho0) hb); have n4_ := Aside0.mk (Kd.R_lower (Kd.R_new' (Kd.R_newM (M := fun k_ => (w.heap.size ≤ k_)) ho0 (below_size (mB HB.out)) (fun k_ h_ => h_)) (Kd.R_lt (mR HO434.out))) (below_size (mB HB.out))); have n5_ := Aside0.mk (Kd.C_below (by repeat (first | (with_reducible exact HR430_0.out) | (with_reducible refine Kd.C_alloc ?_ _) | (with_reducible refine Kd.C_drewN ?_ _) | (with_reducible refine Kd.C_drew ?_) | exact HR430_0.out)) hb); have n6_ := Aside0.mk (below_step (mB HB.out) hb); clear HO_3; clear HO_165; clear HL430_0; clear HO434; clear HR430_0; clear HB; have HO_3 := n0_; have HO_165 := n1_; have HL430_0 := n2_; have HO434 := n3_; have HO438 := n4_; have HR430_0 := n5_; have HB := n6_; clear n0_ n1_ n2_ n3_ n4_ n5_ n6_; (try clear hb); (try clear hb2); (try clear hk); (try clear hi); (try clear ho0)))
             repeat (go_quiet (fail))
             (try simp only [Act.put, List.setIfInBounds_toArray, List.set_cons_zero, List.set_cons_succ])
             go_cut [197] (fun v197 wc => ∃ (kq : Nat) (x197_96 : Bool), v197 = .bool x197_96 ∧ Aside0 (columbariumlaw7_DictTells.j3 kq x3_3 a4 t435 y426 (y426.length : Int) x167_3 x197_96 = some r) ∧ Aside0 (kq ≤ k3) ∧ Aside0 (Kd.V (Kd.int .u8) 5 wc w.heap.size (fun k_ => (P3_ k_ ∨ w.heap.size ≤ k_) ∧ some k_ ≠ (v437 : Value).ownBlock ∧ some k_ ≠ ((.slice (some ad430) y426.length co91) : Value).ownBlock) u3 x3_3) ∧ Aside0 (Kd.R (Kd.int .u8) 5 wc w.heap.size (fun k_ => (w.heap.size ≤ k_)) v437 t435) ∧ Aside0 (Kd.N (Kd.slice 9 Kd.string) 22 wc w.heap.size (fun k_ => (P3_ k_ ∨ w.heap.size ≤ k_) ∧ some k_ ≠ (v437 : Value).ownBlock) (.slice (some ad430) y426.length co91) y426) ∧ Aside0 (Kd.C Kd.string wc A430_0 (rd_L2 y426 x167_3).length (rd_L2 y426 x167_3)) ∧ Aside0 (Below w.heap.size w wc))
             case first =>
              have H := HC97.out
              clear HC97
              by_cases c100 : (strOfNums t431).toList = (strOfNums t435).toList
              ·rw [if_pos c100] at H
               have c100b0 : ((strOfNums t431).toList == (strOfNums t435).toList) = true := beq_iff_eq.mpr c100
               have c100b1 : ((strOfNums t431).toList != (strOfNums t435).toList) = false := bne_eq_false_iff_eq.mpr c100
               clear c100
               (first | rw [c100b0] | rw [c100b1] | (simp only [i64_w, i32_w]; rw [c100b0]) | skip)
               by_cases c101 : t432 = t436
               ·rw [if_pos c101] at H
                have c101b0 : (t432 == t436) = true := beq_iff_eq.mpr c101
                have c101b1 : (t432 != t436) = false := bne_eq_false_iff_eq.mpr c101
                clear c101
                replace H := Option.bind_eq_some_iff.mp H
                obtain ⟨t439, A1020, H⟩ := H
                replace H : ((columbariumref7_Fits.f k3 (rd_L2 y426 x167_3)).bind fun t440 => (columbariumlaw7_DictTells.j3 k3 x3_3 a4 t435 y426 (y426.length : Int) x167_3 (t439 != t440))) = some r := H
                have A102 := Aside0.mk A1020
                clear A1020
                replace H := Option.bind_eq_some_iff.mp H
                obtain ⟨t440, A1030, H⟩ := H
                replace H : (columbariumlaw7_DictTells.j3 k3 x3_3 a4 t435 y426 (y426.length : Int) x167_3 (t439 != t440)) = some r := H
                have A103 := Aside0.mk A1030
                clear A1030
                have H' := Aside0.mk H
                clear H
                have hcv104 := own_string (P := Try.prog) Try.underlying41 Try.underlying5 Try.underlying9 (Kd.own_of_R HO434.out)
                have hcv104n := fun n_ : Nat => own_string (P := Try.prog) Try.underlying41 Try.underlying5 Try.underlying9 (Kd.own_of_R (Kd.R_drewN HO434.out n_))
                have hcv105 := own_string (P := Try.prog) Try.underlying41 Try.underlying5 Try.underlying9 (Kd.own_of_R HO438.out)
                have hcv105n := fun n_ : Nat => own_string (P := Try.prog) Try.underlying41 Try.underlying5 Try.underlying9 (Kd.own_of_R (Kd.R_drewN HO438.out n_))
                go_wp2_with (first | (go_at_call 15; (with_reducible refine (dict_Fits.calls k3 _ _ (rd_L2 y426 x167_3) t439 _ ?side1 ?side2 A102.out).mono ?_); (case side1 => repeat (first | exact (by repeat (first | (with_reducible exact HR430_0.out) | (with_reducible refine Kd.C_alloc ?_ _) | (with_reducible refine Kd.C_drewN ?_ _) | (with_reducible refine Kd.C_drew ?_) | exact HR430_0.out)) | (with_reducible refine Kd.C_alloc ?_ _) | (with_reducible refine Kd.C_drewN ?_ _) | (with_reducible refine Kd.C_drew ?_))); (case side2 => exact HC430_0.out); rintro e w' ⟨rfl, ⟨nd, rfl⟩⟩; (try first | exact ⟨rfl, _, World.drewN_drewN _ _ _⟩ | exact ⟨rfl, _, Eq.trans (World.drewN_drewN _ _ _) (congrArg (World.drewN _) (Nat.add_assoc _ _ _))⟩)) | (go_at_call 26; (with_reducible refine (columbariumref7_Fits.calls k3 _ _ (rd_L2 y426 x167_3) t440 _ ?side1 ?side2 A103.out).mono ?_); (case side1 => repeat (first | exact (by repeat (first | (with_reducible exact HR430_0.out) | (with_reducible refine Kd.C_alloc ?_ _) | (with_reducible refine Kd.C_drewN ?_ _) | (with_reducible refine Kd.C_drew ?_) | exact HR430_0.out)) | (with_reducible refine Kd.C_alloc ?_ _) | (with_reducible refine Kd.C_drewN ?_ _) | (with_reducible refine Kd.C_drew ?_))); (case side2 => exact HC430_0.out); rintro e w' ⟨rfl, ⟨nd, rfl⟩⟩; (try first | exact ⟨rfl, _, World.drewN_drewN _ _ _⟩ | exact ⟨rfl, _, Eq.trans (World.drewN_drewN _ _ _) (congrArg (World.drewN _) (Nat.add_assoc _ _ _))⟩)))
                repeat (go_quiet (first | (go_at_call 15; (with_reducible refine (dict_Fits.calls k3 _ _ (rd_L2 y426 x167_3) t439 _ ?side1 ?side2 A102.out).mono ?_); (case side1 => repeat (first | exact (by repeat (first | (with_reducible exact HR430_0.out) | (with_reducible refine Kd.C_alloc ?_ _) | (with_reducible refine Kd.C_drewN ?_ _) | (with_reducible refine Kd.C_drew ?_) | exact HR430_0.out)) | (with_reducible refine Kd.C_alloc ?_ _) | (with_reducible refine Kd.C_drewN ?_ _) | (with_reducible refine Kd.C_drew ?_))); (case side2 => exact HC430_0.out); rintro e w' ⟨rfl, ⟨nd, rfl⟩⟩; (try first | exact ⟨rfl, _, World.drewN_drewN _ _ _⟩ | exact ⟨rfl, _, Eq.trans (World.drewN_drewN _ _ _) (congrArg (World.drewN _) (Nat.add_assoc _ _ _))⟩)) | (go_at_call 26; (with_reducible refine (columbariumref7_Fits.calls k3 _ _ (rd_L2 y426 x167_3) t440 _ ?side1 ?side2 A103.out).mono ?_); (case side1 => repeat (first | exact (by repeat (first | (with_reducible exact HR430_0.out) | (with_reducible refine Kd.C_alloc ?_ _) | (with_reducible refine Kd.C_drewN ?_ _) | (with_reducible refine Kd.C_drew ?_) | exact HR430_0.out)) | (with_reducible refine Kd.C_alloc ?_ _) | (with_reducible refine Kd.C_drewN ?_ _) | (with_reducible refine Kd.C_drew ?_))); (case side2 => exact HC430_0.out); rintro e w' ⟨rfl, ⟨nd, rfl⟩⟩; (try first | exact ⟨rfl, _, World.drewN_drewN _ _ _⟩ | exact ⟨rfl, _, Eq.trans (World.drewN_drewN _ _ _) (congrArg (World.drewN _) (Nat.add_assoc _ _ _))⟩))); try go_wp2_with (first | (go_at_call 15; (with_reducible refine (dict_Fits.calls k3 _ _ (rd_L2 y426 x167_3) t439 _ ?side1 ?side2 A102.out).mono ?_); (case side1 => repeat (first | exact (by repeat (first | (with_reducible exact HR430_0.out) | (with_reducible refine Kd.C_alloc ?_ _) | (with_reducible refine Kd.C_drewN ?_ _) | (with_reducible refine Kd.C_drew ?_) | exact HR430_0.out)) | (with_reducible refine Kd.C_alloc ?_ _) | (with_reducible refine Kd.C_drewN ?_ _) | (with_reducible refine Kd.C_drew ?_))); (case side2 => exact HC430_0.out); rintro e w' ⟨rfl, ⟨nd, rfl⟩⟩; (try first | exact ⟨rfl, _, World.drewN_drewN _ _ _⟩ | exact ⟨rfl, _, Eq.trans (World.drewN_drewN _ _ _) (congrArg (World.drewN _) (Nat.add_assoc _ _ _))⟩)) | (go_at_call 26; (with_reducible refine (columbariumref7_Fits.calls k3 _ _ (rd_L2 y426 x167_3) t440 _ ?side1 ?side2 A103.out).mono ?_); (case side1 => repeat (first | exact (by repeat (first | (with_reducible exact HR430_0.out) | (with_reducible refine Kd.C_alloc ?_ _) | (with_reducible refine Kd.C_drewN ?_ _) | (with_reducible refine Kd.C_drew ?_) | exact HR430_0.out)) | (with_reducible refine Kd.C_alloc ?_ _) | (with_reducible refine Kd.C_drewN ?_ _) | (with_reducible refine Kd.C_drew ?_))); (case side2 => exact HC430_0.out); rintro e w' ⟨rfl, ⟨nd, rfl⟩⟩; (try first | exact ⟨rfl, _, World.drewN_drewN _ _ _⟩ | exact ⟨rfl, _, Eq.trans (World.drewN_drewN _ _ _) (congrArg (World.drewN _) (Nat.add_assoc _ _ _))⟩))))
                go_meet
                case rel => exact ⟨_, ((t439 != t440)), (by first | rfl | (simp; done) | (simp [*]; done)), H', ⟨by have := HJ18.out; have := HK2.out; have := HK3.out; first | omega | exact Nat.le_refl _⟩, ⟨by (with_reducible repeat (first | apply Kd.V_alloc | apply Kd.V_drewN | apply Kd.V_drew)); exact Kd.V_mono HO_3.out (fun _ hk => ⟨hk.1.1.1, ⟨hk.2, hk.1.1.2⟩⟩)⟩, ⟨by (with_reducible repeat (first | apply Kd.R_alloc | apply Kd.R_drewN | apply Kd.R_drew)); exact Kd.R_mono HO438.out (fun _ hk => hk.1.1)⟩, ⟨by (with_reducible repeat (first | apply Kd.N_alloc | apply Kd.N_drewN | apply Kd.N_drew)); exact Kd.N_mono HO_165.out (fun _ hk => ⟨hk.1.1, hk.2⟩)⟩, ⟨by repeat (first | (with_reducible exact HR430_0.out) | (with_reducible refine Kd.C_alloc ?_ _) | (with_reducible refine Kd.C_drewN ?_ _) | (with_reducible refine Kd.C_drew ?_) | exact HR430_0.out)⟩, ⟨mB HB.out⟩⟩
               ·rw [if_neg c101] at H
                have c101b0 : (t432 == t436) = false := beq_eq_false_iff_ne.mpr c101
                have c101b1 : (t432 != t436) = true := bne_iff_ne.mpr c101
                have H' := Aside0.mk H
                clear H
                have hcv106 := own_string (P := Try.prog) Try.underlying41 Try.underlying5 Try.underlying9 (Kd.own_of_R HO434.out)
                have hcv106n := fun n_ : Nat => own_string (P := Try.prog) Try.underlying41 Try.underlying5 Try.underlying9 (Kd.own_of_R (Kd.R_drewN HO434.out n_))
                have hcv107 := own_string (P := Try.prog) Try.underlying41 Try.underlying5 Try.underlying9 (Kd.own_of_R HO438.out)
                have hcv107n := fun n_ : Nat => own_string (P := Try.prog) Try.underlying41 Try.underlying5 Try.underlying9 (Kd.own_of_R (Kd.R_drewN HO438.out n_))
                go_wp2
                repeat (go_quiet (fail); try go_wp2)
                go_meet
                case rel => exact ⟨_, (true), (by first | rfl | (simp; done) | (simp [*]; done)), H', ⟨by have := HJ18.out; have := HK2.out; have := HK3.out; first | omega | exact Nat.le_refl _⟩, ⟨by (with_reducible repeat (first | apply Kd.V_alloc | apply Kd.V_drewN | apply Kd.V_drew)); exact Kd.V_mono HO_3.out (fun _ hk => ⟨hk.1.1.1, ⟨hk.2, hk.1.1.2⟩⟩)⟩, ⟨by (with_reducible repeat (first | apply Kd.R_alloc | apply Kd.R_drewN | apply Kd.R_drew)); exact Kd.R_mono HO438.out (fun _ hk => hk.1.1)⟩, ⟨by (with_reducible repeat (first | apply Kd.N_alloc | apply Kd.N_drewN | apply Kd.N_drew)); exact Kd.N_mono HO_165.out (fun _ hk => ⟨hk.1.1, hk.2⟩)⟩, ⟨by repeat (first | (with_reducible exact HR430_0.out) | (with_reducible refine Kd.C_alloc ?_ _) | (with_reducible refine Kd.C_drewN ?_ _) | (with_reducible refine Kd.C_drew ?_) | exact HR430_0.out)⟩, ⟨mB HB.out⟩⟩
              ·rw [if_neg c100] at H
               have c100b0 : ((strOfNums t431).toList == (strOfNums t435).toList) = false := beq_eq_false_iff_ne.mpr c100
               have c100b1 : ((strOfNums t431).toList != (strOfNums t435).toList) = true := bne_iff_ne.mpr c100
               (first | rw [c100b0] | rw [c100b1] | (simp only [i64_w, i32_w]; rw [c100b0]) | skip)
               have H' := Aside0.mk H
               clear H
               have hcv108 := own_string (P := Try.prog) Try.underlying41 Try.underlying5 Try.underlying9 (Kd.own_of_R HO434.out)
               have hcv108n := fun n_ : Nat => own_string (P := Try.prog) Try.underlying41 Try.underlying5 Try.underlying9 (Kd.own_of_R (Kd.R_drewN HO434.out n_))
               have hcv109 := own_string (P := Try.prog) Try.underlying41 Try.underlying5 Try.underlying9 (Kd.own_of_R HO438.out)
               have hcv109n := fun n_ : Nat => own_string (P := Try.prog) Try.underlying41 Try.underlying5 Try.underlying9 (Kd.own_of_R (Kd.R_drewN HO438.out n_))
               go_wp2
               repeat (go_quiet (fail); try go_wp2)
               go_meet
               case rel => exact ⟨_, (true), (by first | rfl | (simp; done) | (simp [*]; done)), H', ⟨by have := HJ18.out; have := HK2.out; have := HK3.out; first | omega | exact Nat.le_refl _⟩, ⟨by (with_reducible repeat (first | apply Kd.V_alloc | apply Kd.V_drewN | apply Kd.V_drew)); exact Kd.V_mono HO_3.out (fun _ hk => ⟨hk.1.1.1, ⟨hk.2, hk.1.1.2⟩⟩)⟩, ⟨by (with_reducible repeat (first | apply Kd.R_alloc | apply Kd.R_drewN | apply Kd.R_drew)); exact Kd.R_mono HO438.out (fun _ hk => hk.1.1)⟩, ⟨by (with_reducible repeat (first | apply Kd.N_alloc | apply Kd.N_drewN | apply Kd.N_drew)); exact Kd.N_mono HO_165.out (fun _ hk => ⟨hk.1.1, hk.2⟩)⟩, ⟨by repeat (first | (with_reducible exact HR430_0.out) | (with_reducible refine Kd.C_alloc ?_ _) | (with_reducible refine Kd.C_drewN ?_ _) | (with_reducible refine Kd.C_drew ?_) | exact HR430_0.out)⟩, ⟨mB HB.out⟩⟩
             case rest =>
              clear HC97
              try clear c1
              try clear hcv1
              try clear p2
              try clear c3
              try clear p3
              try clear q3
              try clear hx3
              try clear qi3
              try clear c4
              try clear p4
              try clear q4
              try clear hx4
              try clear c5
              try clear p6
              try clear c7
              try clear c8
              try clear c9
              try clear c9b0
              try clear c9b1
              try clear c10
              try clear hcv10
              try clear p37
              try clear q37
              try clear hx37
              try clear qi37
              try clear c42
              try clear p42
              try clear q42
              try clear hx42
              try clear c43
              try clear p43
              try clear q43
              try clear hx43
              try clear c45
              try clear c46
              try clear c46b0
              try clear c46b1
              try clear c47
              try clear c47b0
              try clear c47b1
              try clear c47b2
              try clear c51
              try clear c51b0
              try clear c51b1
              try clear c52
              try clear c52b0
              try clear c52b1
              try clear c54
              try clear p64
              try clear c80
              try clear c81
              try clear c81b0
              try clear c82
              try clear c82b0
              try clear c83
              try clear c83b0
              try clear c85
              try clear c92
              try clear c92b0
              try clear c93
              try clear c93b0
              try clear c94
              try clear c94b0
              try clear c100
              try clear c100b0
              try clear c100b1
              try clear c101
              try clear c101b0
              try clear c101b1
              try clear hcv104
              try clear hcv105
              try clear hcv106
              try clear hcv107
              try clear hcv108
              try clear hcv109
              try clear hx375_0
              try clear hx423_0
              try clear hx424_0
              try clear hx430_0
              try clear p2
              try clear p3
              try clear p37
              try clear p375
              try clear p4
              try clear p42
              try clear p423
              try clear p424
              try clear p430
              try clear p6
              try clear p64
              try clear q3
              try clear q37
              try clear q375
              try clear q4
              try clear q42
              try clear q423
              try clear q424
              try clear q430
              obtain ⟨kq, x197_96, rfl, HA, HJ96, HO_3, HO_34, HO_165, HR430_0, HB⟩ := hcut
              cases kq with
              | zero => exact absurd HA.out (by simp [columbariumlaw7_DictTells.j3])
              | succ kj96 =>
               have H := HA.out
               clear HA
               simp only [columbariumlaw7_DictTells.j3] at H
               by_cases c110 : x197_96 = true
               ·subst c110
                have H1 : (some false) = some r := by rw [if_pos rfl] at H; exact H
                clear H
                have H := H1
                clear H1
                exact absurd ((Option.some.inj H).trans hrt_.out) (by decide)
               ·replace c110 := Bool.eq_false_iff.mpr c110
                subst c110
                have H1 : ((some (([] : List Int) : List Int)).bind fun y441 => (if y441.length + x3_3.length < 140737488355328 then ((some (y441 ++ x3_3 : List Int)).bind fun y444 => (if y444.length + t435.length < 140737488355328 then ((some (y444 ++ t435 : List Int)).bind fun y447 => ((dict_Decode.f kj96 y447 a4).bind fun bt450 => ((columbariumref7_Decode.f kj96 y447 a4).bind fun bt455 => ((columbariumkeep_Texts.f kj96 bt450.1 bt455.1).bind fun t460 => (if t460 = true then (if bt450.2.1 = bt455.2.1 then (if bt450.2.2 = bt455.2.2 then (columbariumlaw7_DictTells.l1 kj96 y447 a4 y426 (y426.length : Int) (wrap64 (x167_3 + 1))) else (some false)) else (some false)) else (some false)))))) else (none))) else (none))) = some r := by rw [if_neg (show ¬ (false = true) by decide)] at H; exact H
                clear H
                have H := H1
                clear H1
                obtain ⟨y441, hy441⟩ : ∃ y_ : List Int, y_ = (([] : List Int)) := ⟨_, rfl⟩
                replace H : (if y441.length + x3_3.length < 140737488355328 then ((some (y441 ++ x3_3 : List Int)).bind fun y444 => (if y444.length + t435.length < 140737488355328 then ((some (y444 ++ t435 : List Int)).bind fun y447 => ((dict_Decode.f kj96 y447 a4).bind fun bt450 => ((columbariumref7_Decode.f kj96 y447 a4).bind fun bt455 => ((columbariumkeep_Texts.f kj96 bt450.1 bt455.1).bind fun t460 => (if t460 = true then (if bt450.2.1 = bt455.2.1 then (if bt450.2.2 = bt455.2.2 then (columbariumlaw7_DictTells.l1 kj96 y447 a4 y426 (y426.length : Int) (wrap64 (x167_3 + 1))) else (some false)) else (some false)) else (some false)))))) else (none))) else (none)) = some r := by first | (rw [hy441]; with_reducible exact H) | (have H2_ := (Option.bind_some _ _).symm.trans H; rw [hy441]; with_reducible exact H2_) | (have H2_ := (Option.bind_some _ _).symm.trans H; with_reducible exact H2_) | with_reducible exact H | (rw [hy441]; exact H) | exact H
                have Ny441 := Aside0.mk hy441
                clear hy441
                by_cases c111 : y441.length + x3_3.length < 140737488355328
                ·rw [if_pos c111] at H
                 have LMc111 := Aside0.mk c111
                 clear c111
                 obtain ⟨y444, hy444⟩ : ∃ y_ : List Int, y_ = (y441 ++ x3_3) := ⟨_, rfl⟩
                 replace H : (if y444.length + t435.length < 140737488355328 then ((some (y444 ++ t435 : List Int)).bind fun y447 => ((dict_Decode.f kj96 y447 a4).bind fun bt450 => ((columbariumref7_Decode.f kj96 y447 a4).bind fun bt455 => ((columbariumkeep_Texts.f kj96 bt450.1 bt455.1).bind fun t460 => (if t460 = true then (if bt450.2.1 = bt455.2.1 then (if bt450.2.2 = bt455.2.2 then (columbariumlaw7_DictTells.l1 kj96 y447 a4 y426 (y426.length : Int) (wrap64 (x167_3 + 1))) else (some false)) else (some false)) else (some false)))))) else (none)) = some r := by first | (rw [hy444]; with_reducible exact H) | (have H2_ := (Option.bind_some _ _).symm.trans H; rw [hy444]; with_reducible exact H2_) | (have H2_ := (Option.bind_some _ _).symm.trans H; with_reducible exact H2_) | with_reducible exact H | (rw [hy444]; exact H) | exact H
                 have Ny444 := Aside0.mk hy444
                 clear hy444
                 by_cases c112 : y444.length + t435.length < 140737488355328
                 ·rw [if_pos c112] at H
                  have LMc112 := Aside0.mk c112
                  clear c112
                  obtain ⟨y447, hy447⟩ : ∃ y_ : List Int, y_ = (y444 ++ t435) := ⟨_, rfl⟩
                  replace H : ((dict_Decode.f kj96 y447 a4).bind fun bt450 => ((columbariumref7_Decode.f kj96 y447 a4).bind fun bt455 => ((columbariumkeep_Texts.f kj96 bt450.1 bt455.1).bind fun t460 => (if t460 = true then (if bt450.2.1 = bt455.2.1 then (if bt450.2.2 = bt455.2.2 then (columbariumlaw7_DictTells.l1 kj96 y447 a4 y426 (y426.length : Int) (wrap64 (x167_3 + 1))) else (some false)) else (some false)) else (some false))))) = some r := by first | (rw [hy447]; with_reducible exact H) | (have H2_ := (Option.bind_some _ _).symm.trans H; rw [hy447]; with_reducible exact H2_) | (have H2_ := (Option.bind_some _ _).symm.trans H; with_reducible exact H2_) | with_reducible exact H | (rw [hy447]; exact H) | exact H
                  have Ny447 := Aside0.mk hy447
                  clear hy447
                  replace H := Option.bind_eq_some_iff.mp H
                  obtain ⟨⟨t450, t451, t452⟩, A1130, H⟩ := H
                  replace H : ((columbariumref7_Decode.f kj96 y447 a4).bind fun bt455 => ((columbariumkeep_Texts.f kj96 t450 bt455.1).bind fun t460 => (if t460 = true then (if t451 = bt455.2.1 then (if t452 = bt455.2.2 then (columbariumlaw7_DictTells.l1 kj96 y447 a4 y426 (y426.length : Int) (wrap64 (x167_3 + 1))) else (some false)) else (some false)) else (some false)))) = some r := H
                  have A113 := Aside0.mk A1130
                  clear A1130
                  replace H := Option.bind_eq_some_iff.mp H
                  obtain ⟨⟨t455, t456, t457⟩, A1140, H⟩ := H
                  replace H : ((columbariumkeep_Texts.f kj96 t450 t455).bind fun t460 => (if t460 = true then (if t451 = t456 then (if t452 = t457 then (columbariumlaw7_DictTells.l1 kj96 y447 a4 y426 (y426.length : Int) (wrap64 (x167_3 + 1))) else (some false)) else (some false)) else (some false))) = some r := H
                  have A114 := Aside0.mk A1140
                  clear A1140
                  replace H := Option.bind_eq_some_iff.mp H
                  obtain ⟨t460, A1150, H⟩ := H
                  replace H : (if t460 = true then (if t451 = t456 then (if t452 = t457 then (columbariumlaw7_DictTells.l1 kj96 y447 a4 y426 (y426.length : Int) (wrap64 (x167_3 + 1))) else (some false)) else (some false)) else (some false)) = some r := H
                  have A115 := Aside0.mk A1150
                  clear A1150
                  by_cases c116 : t460 = true
                  ·subst c116
                   have H1 : (if t451 = t456 then (if t452 = t457 then (columbariumlaw7_DictTells.l1 kj96 y447 a4 y426 (y426.length : Int) (wrap64 (x167_3 + 1))) else (some false)) else (some false)) = some r := by rw [if_pos rfl] at H; exact H
                   clear H
                   have H := H1
                   clear H1
                   by_cases c117 : t451 = t456
                   ·rw [if_pos c117] at H
                    have c117b0 : (t451 == t456) = true := beq_iff_eq.mpr c117
                    have c117b1 : (t451 != t456) = false := bne_eq_false_iff_eq.mpr c117
                    clear c117
                    by_cases c118 : t452 = t457
                    ·rw [if_pos c118] at H
                     have c118b0 : (t452 == t457) = true := beq_iff_eq.mpr c118
                     have c118b1 : (t452 != t457) = false := bne_eq_false_iff_eq.mpr c118
                     clear c118
                     have H' := Aside0.mk H
                     clear H
                     go_wp2_with (first | ((with_reducible refine gate_dst (N := 198) rfl ?_); (try (refine gate_guard (by rfl) ?_; dsimp only)); refine Kd.R_lit (Kd.int .u8) _ 5 ?hg (N := 198) ?hd (xs := ([] : List Int)) (inner := []) (ok := fun _ => True) (okp := fun _ => True) ?hr ?hp (fun _ hk => hk) trivial (Below.refl _ _) (Nat.le_refl _) (by simp) ?_; (case hd => rfl); (case hg => rfl); (case hr => first | (go_simp; done) | (go_simp; rfl)); (case hp => exact (Reps.none _ _)); intro v442 w119 ho120 hb hg_ hnew_; clear hg_ hnew_; (first | rw [← Ny441.out] at ho120 | (simp only [Int.reduceToNat] at ho120; rw [← Ny441.out] at ho120)); have n0_ := Aside0.mk (Kd.V_elder' (mV HO_3.out) (Kd.R_base ho120) hb); have n1_ := Aside0.mk (Kd.R_elder' (mR HO_34.out) (Kd.R_base ho120) hb); have n2_ := Aside0.mk (Kd.N_elder' (mN HO_165.out) (Kd.R_base ho120) hb); have n3_ := Aside0.mk (Kd.R_lower (Kd.R_new' (Kd.R_newM (M := fun k_ => (w.heap.size ≤ k_)) ho120 (below_size (mB HB.out)) (fun k_ h_ => h_)) (Kd.R_lt (mR HO_34.out))) (below_size (mB HB.out))); have n4_ := Aside0.mk (Kd.C_below (by repeat (first | (with_reducible exact HR430_0.out) | (with_reducible refine Kd.C_alloc ?_ _) | (with_reducible refine Kd.C_drewN ?_ _) | (with_reducible refine Kd.C_drew ?_) | exact HR430_0.out)) hb); have n5_ := Aside0.mk (below_step (mB HB.out) hb); clear HO_3; clear HO_34; clear HO_165; clear HR430_0; clear HB; have HO_3 := n0_; have HO_34 := n1_; have HO_165 := n2_; have HO443 := n3_; have HR430_0 := n4_; have HB := n5_; clear n0_ n1_ n2_ n3_ n4_ n5_; clear hb ho120; obtain ⟨Ao122, co122, eo122⟩ := Kd.V_slice HO_3.out; subst eo122) | ((with_reducible refine gate_builtin (b := .append) (xs := #[.tmp 198, .tmp 199]) rfl ?_); (try (refine gate_guard (by rfl) ?_; dsimp only)); at_builtin; refine Kd.R_append_rows (Kd.int .u8) (w0 := w) w.heap.size rfl (.tmp 198) (.tmp 199) 41 5 (.int .u8 0) 1 rfl Try.underlying41 info5 rfl (by decide) (by omega) v442 y441 x3_3 _ _ _ (fun k_ => (w.heap.size ≤ k_) ∧ some k_ ≠ (v437 : Value).ownBlock) (fun _ => False) rfl rfl ?aO ?aR (fun _ _ h => h) (fun _ h => h.elim) ?aF ?aB ?aS ?aL ?_; (case aR => repeat (first | exact (Kd.V_reads' HO_3.out).2.2 | (with_reducible refine Kd.C_alloc ?_ _) | (with_reducible refine Kd.C_drewN ?_ _) | (with_reducible refine Kd.C_drew ?_))); (case aB => exact (mB HB.out)); (case aF => exact (fun k_ hk => ⟨(Nat.le_trans (below_size (mB HB.out)) hk), Kd.fresh' (Kd.R_lt (mR HO_34.out)) k_ hk⟩)); (case aO => exact (by (with_reducible repeat (first | apply Kd.R_alloc | apply Kd.R_drewN | apply Kd.R_drew)); exact Kd.R_mono HO443.out (fun _ hk => ⟨hk.1.1, hk.2⟩))); (case aS => exact (below_size (mB HB.out))); (case aL => have := LMc111.out; omega); intro v445 w121 ho hb hg hat; rw [← Ny444.out] at ho; have n0_ := Aside0.mk (Kd.V_afterv (ok := (fun k_ => (P3_ k_ ∨ w.heap.size ≤ k_) ∧ some k_ ≠ (v437 : Value).ownBlock ∧ some k_ ≠ (.slice (some ad430) y426.length co91 : Value).ownBlock)) (mV HO_3.out) hg hat); have n1_ := Aside0.mk (Kd.R_after (ok := (fun k_ => (w.heap.size ≤ k_))) (mR HO_34.out) hg hat); have n2_ := Aside0.mk (Kd.N_afterv (ok := (fun k_ => (P3_ k_ ∨ w.heap.size ≤ k_) ∧ some k_ ≠ (v437 : Value).ownBlock)) (mN HO_165.out) hg hat); have n3_ := Aside0.mk (hb); have n4_ := Aside0.mk (ho); clear HO_3; clear HO_34; clear HO_165; clear HB; clear HO443; have HO_3 := n0_; have HO_34 := n1_; have HO_165 := n2_; have HB := n3_; have HO446 := n4_; clear n0_ n1_ n2_ n3_ n4_; clear ho hb hg hat; obtain ⟨Ao124, co124, eo124⟩ := Kd.R_slice HO_34.out; subst eo124) | ((with_reducible refine gate_builtin (b := .append) (xs := #[.tmp 200, .tmp 201]) rfl ?_); (try (refine gate_guard (by rfl) ?_; dsimp only)); at_builtin; refine Kd.R_append_rows (Kd.int .u8) (w0 := w) w.heap.size rfl (.tmp 200) (.tmp 201) 41 5 (.int .u8 0) 1 rfl Try.underlying41 info5 rfl (by decide) (by omega) v445 y444 t435 _ _ _ (fun k_ => (w.heap.size ≤ k_) ∧ some k_ ≠ (.slice Ao124 t435.length co124 : Value).ownBlock) (fun _ => False) rfl rfl ?aO ?aR (fun _ _ h => h) (fun _ h => h.elim) ?aF ?aB ?aS ?aL ?_; (case aR => repeat (first | exact (Kd.R_reads' HO_34.out).2.2 | (with_reducible refine Kd.C_alloc ?_ _) | (with_reducible refine Kd.C_drewN ?_ _) | (with_reducible refine Kd.C_drew ?_))); (case aB => exact (mB HB.out)); (case aF => exact (fun k_ hk => ⟨(Nat.le_trans (below_size (mB HB.out)) hk), Kd.fresh' (Kd.R_lt (mR HO_34.out)) k_ hk⟩)); (case aO => exact (mR HO446.out)); (case aS => exact (below_size (mB HB.out))); (case aL => have := LMc112.out; omega); intro v448 w123 ho hb hg hat; rw [← Ny447.out] at ho; have n0_ := Aside0.mk (Kd.V_afterv (ok := (fun k_ => (P3_ k_ ∨ w.heap.size ≤ k_) ∧ some k_ ≠ (.slice Ao124 t435.length co124 : Value).ownBlock ∧ some k_ ≠ (.slice (some ad430) y426.length co91 : Value).ownBlock)) (mV HO_3.out) hg hat); have n1_ := Aside0.mk (Kd.R_after (ok := (fun k_ => (w.heap.size ≤ k_))) (mR HO_34.out) hg hat); have n2_ := Aside0.mk (Kd.N_afterv (ok := (fun k_ => (P3_ k_ ∨ w.heap.size ≤ k_) ∧ some k_ ≠ (.slice Ao124 t435.length co124 : Value).ownBlock)) (mN HO_165.out) hg hat); have n3_ := Aside0.mk (hb); have n4_ := Aside0.mk (ho); clear HO_3; clear HO_34; clear HO_165; clear HB; clear HO446; have HO_3 := n0_; have HO_34 := n1_; have HO_165 := n2_; have HB := n3_; have HO449 := n4_; clear n0_ n1_ n2_ n3_ n4_; clear ho hb hg hat; obtain ⟨Ao125, co125, eo125⟩ := Kd.R_slice HO449.out; subst eo125) | (go_at_call 18; (with_reducible refine (dict_Decode.calls kj96 _ _ y447 a4 t450 t451 t452 _ ?side1 ?side2 A113.out).mono ?_); (case side1 => repeat (first | exact (Kd.R_reads' HO449.out).2.2 | (with_reducible refine Kd.C_alloc ?_ _) | (with_reducible refine Kd.C_drewN ?_ _) | (with_reducible refine Kd.C_drew ?_))); (case side2 => exact (Kd.R_reads' HO449.out).2.1); rintro e w126 ⟨v453, rfl, ho0, hb⟩; have n0_ := Aside0.mk (Kd.V_elder' (mV HO_3.out) (Kd.R_base ho0) hb); have n1_ := Aside0.mk (Kd.R_below (mR HO_34.out) hb); have n2_ := Aside0.mk (Kd.N_elder' (mN HO_165.out) (Kd.R_base ho0) hb); have n3_ := Aside0.mk (Kd.R_below (mR HO449.out) hb); have n4_ := Aside0.mk (Kd.R_lower (Kd.R_newM (M := fun k_ => (w.heap.size ≤ k_)) ho0 (below_size (mB HB.out)) (fun k_ h_ => h_)) (below_size (mB HB.out))); have n5_ := Aside0.mk (below_step (mB HB.out) hb); clear HO_3; clear HO_34; clear HO_165; clear HO449; clear HB; have HO_3 := n0_; have HO_34 := n1_; have HO_165 := n2_; have HO449 := n3_; have HO454 := n4_; have HB := n5_; clear n0_ n1_ n2_ n3_ n4_ n5_; (try clear hb); (try clear hb2); (try clear hk); (try clear hi); (try clear ho0)) | (go_at_call 27; (with_reducible refine (columbariumref7_Decode.calls kj96 _ _ y447 a4 t455 t456 t457 _ ?side1 ?side2 A114.out).mono ?_); (case side1 => repeat (first | exact (Kd.R_reads' HO449.out).2.2 | (with_reducible refine Kd.C_alloc ?_ _) | (with_reducible refine Kd.C_drewN ?_ _) | (with_reducible refine Kd.C_drew ?_))); (case side2 => exact (Kd.R_reads' HO449.out).2.1); rintro e w127 ⟨v458, rfl, ho0, hb⟩; have n0_ := Aside0.mk (Kd.V_elder' (mV HO_3.out) (Kd.R_base ho0) hb); have n1_ := Aside0.mk (Kd.R_below (mR HO_34.out) hb); have n2_ := Aside0.mk (Kd.N_elder' (mN HO_165.out) (Kd.R_base ho0) hb); have n3_ := Aside0.mk (Kd.R_below (mR HO449.out) hb); have n4_ := Aside0.mk (Kd.R_elder' (mR HO454.out) (Kd.R_base ho0) hb); have n5_ := Aside0.mk (Kd.R_lower (Kd.R_new' (Kd.R_newM (M := fun k_ => (w.heap.size ≤ k_)) ho0 (below_size (mB HB.out)) (fun k_ h_ => h_)) (Kd.R_lt (mR HO454.out))) (below_size (mB HB.out))); have n6_ := Aside0.mk (below_step (mB HB.out) hb); clear HO_3; clear HO_34; clear HO_165; clear HO449; clear HO454; clear HB; have HO_3 := n0_; have HO_34 := n1_; have HO_165 := n2_; have HO449 := n3_; have HO454 := n4_; have HO459 := n5_; have HB := n6_; clear n0_ n1_ n2_ n3_ n4_ n5_ n6_; (try clear hb); (try clear hb2); (try clear hk); (try clear hi); (try clear ho0); obtain ⟨Ao128, co128, eo128⟩ := Kd.R_slice HO454.out; subst eo128; obtain ⟨Ao129, co129, eo129⟩ := Kd.R_slice HO459.out; subst eo129) | (go_at_call 11; (with_reducible refine (columbariumkeep_Texts.calls kj96 _ _ t450 _ _ t455 true _ ?side1 ?side2 ?side3 ?side4 A115.out).mono ?_); (case side1 => repeat (first | exact (Kd.R_reads' HO454.out).2.2 | (with_reducible refine Kd.C_alloc ?_ _) | (with_reducible refine Kd.C_drewN ?_ _) | (with_reducible refine Kd.C_drew ?_))); (case side2 => exact (Kd.R_reads' HO454.out).2.1); (case side3 => repeat (first | exact (Kd.R_reads' HO459.out).2.2 | (with_reducible refine Kd.C_alloc ?_ _) | (with_reducible refine Kd.C_drewN ?_ _) | (with_reducible refine Kd.C_drew ?_))); (case side4 => exact (Kd.R_reads' HO459.out).2.1); rintro e w' ⟨rfl, ⟨nd, rfl⟩⟩; (try first | exact ⟨rfl, _, World.drewN_drewN _ _ _⟩ | exact ⟨rfl, _, Eq.trans (World.drewN_drewN _ _ _) (congrArg (World.drewN _) (Nat.add_assoc _ _ _))⟩)))
                     repeat (go_quiet (first | ((with_reducible refine gate_dst (N := 198) rfl ?_); (try (refine gate_guard (by rfl) ?_; dsimp only)); refine Kd.R_lit (Kd.int .u8) _ 5 ?hg (N := 198) ?hd (xs := ([] : List Int)) (inner := []) (ok := fun _ => True) (okp := fun _ => True) ?hr ?hp (fun _ hk => hk) trivial (Below.refl _ _) (Nat.le_refl _) (by simp) ?_; (case hd => rfl); (case hg => rfl); (case hr => first | (go_simp; done) | (go_simp; rfl)); (case hp => exact (Reps.none _ _)); intro v442 w119 ho120 hb hg_ hnew_; clear hg_ hnew_; (first | rw [← Ny441.out] at ho120 | (simp only [Int.reduceToNat] at ho120; rw [← Ny441.out] at ho120)); have n0_ := Aside0.mk (Kd.V_elder' (mV HO_3.out) (Kd.R_base ho120) hb); have n1_ := Aside0.mk (Kd.R_elder' (mR HO_34.out) (Kd.R_base ho120) hb); have n2_ := Aside0.mk (Kd.N_elder' (mN HO_165.out) (Kd.R_base ho120) hb); have n3_ := Aside0.mk (Kd.R_lower (Kd.R_new' (Kd.R_newM (M := fun k_ => (w.heap.size ≤ k_)) ho120 (below_size (mB HB.out)) (fun k_ h_ => h_)) (Kd.R_lt (mR HO_34.out))) (below_size (mB HB.out))); have n4_ := Aside0.mk (Kd.C_below (by repeat (first | (with_reducible exact HR430_0.out) | (with_reducible refine Kd.C_alloc ?_ _) | (with_reducible refine Kd.C_drewN ?_ _) | (with_reducible refine Kd.C_drew ?_) | exact HR430_0.out)) hb); have n5_ := Aside0.mk (below_step (mB HB.out) hb); clear HO_3; clear HO_34; clear HO_165; clear HR430_0; clear HB; have HO_3 := n0_; have HO_34 := n1_; have HO_165 := n2_; have HO443 := n3_; have HR430_0 := n4_; have HB := n5_; clear n0_ n1_ n2_ n3_ n4_ n5_; clear hb ho120; obtain ⟨Ao122, co122, eo122⟩ := Kd.V_slice HO_3.out; subst eo122) | ((with_reducible refine gate_builtin (b := .append) (xs := #[.tmp 198, .tmp 199]) rfl ?_); (try (refine gate_guard (by rfl) ?_; dsimp only)); at_builtin; refine Kd.R_append_rows (Kd.int .u8) (w0 := w) w.heap.size rfl (.tmp 198) (.tmp 199) 41 5 (.int .u8 0) 1 rfl Try.underlying41 info5 rfl (by decide) (by omega) v442 y441 x3_3 _ _ _ (fun k_ => (w.heap.size ≤ k_) ∧ some k_ ≠ (v437 : Value).ownBlock) (fun _ => False) rfl rfl ?aO ?aR (fun _ _ h => h) (fun _ h => h.elim) ?aF ?aB ?aS ?aL ?_; (case aR => repeat (first | exact (Kd.V_reads' HO_3.out).2.2 | (with_reducible refine Kd.C_alloc ?_ _) | (with_reducible refine Kd.C_drewN ?_ _) | (with_reducible refine Kd.C_drew ?_))); (case aB => exact (mB HB.out)); (case aF => exact (fun k_ hk => ⟨(Nat.le_trans (below_size (mB HB.out)) hk), Kd.fresh' (Kd.R_lt (mR HO_34.out)) k_ hk⟩)); (case aO => exact (by (with_reducible repeat (first | apply Kd.R_alloc | apply Kd.R_drewN | apply Kd.R_drew)); exact Kd.R_mono HO443.out (fun _ hk => ⟨hk.1.1, hk.2⟩))); (case aS => exact (below_size (mB HB.out))); (case aL => have := LMc111.out; omega); intro v445 w121 ho hb hg hat; rw [← Ny444.out] at ho; have n0_ := Aside0.mk (Kd.V_afterv (ok := (fun k_ => (P3_ k_ ∨ w.heap.size ≤ k_) ∧ some k_ ≠ (v437 : Value).ownBlock ∧ some k_ ≠ (.slice (some ad430) y426.length co91 : Value).ownBlock)) (mV HO_3.out) hg hat); have n1_ := Aside0.mk (Kd.R_after (ok := (fun k_ => (w.heap.size ≤ k_))) (mR HO_34.out) hg hat); have n2_ := Aside0.mk (Kd.N_afterv (ok := (fun k_ => (P3_ k_ ∨ w.heap.size ≤ k_) ∧ some k_ ≠ (v437 : Value).ownBlock)) (mN HO_165.out) hg hat); have n3_ := Aside0.mk (hb); have n4_ := Aside0.mk (ho); clear HO_3; clear HO_34; clear HO_165; clear HB; clear HO443; have HO_3 := n0_; have HO_34 := n1_; have HO_165 := n2_; have HB := n3_; have HO446 := n4_; clear n0_ n1_ n2_ n3_ n4_; clear ho hb hg hat; obtain ⟨Ao124, co124, eo124⟩ := Kd.R_slice HO_34.out; subst eo124) | ((with_reducible refine gate_builtin (b := .append) (xs := #[.tmp 200, .tmp 201]) rfl ?_); (try (refine gate_guard (by rfl) ?_; dsimp only)); at_builtin; refine Kd.R_append_rows (Kd.int .u8) (w0 := w) w.heap.size rfl (.tmp 200) (.tmp 201) 41 5 (.int .u8 0) 1 rfl Try.underlying41 info5 rfl (by decide) (by omega) v445 y444 t435 _ _ _ (fun k_ => (w.heap.size ≤ k_) ∧ some k_ ≠ (.slice Ao124 t435.length co124 : Value).ownBlock) (fun _ => False) rfl rfl ?aO ?aR (fun _ _ h => h) (fun _ h => h.elim) ?aF ?aB ?aS ?aL ?_; (case aR => repeat (first | exact (Kd.R_reads' HO_34.out).2.2 | (with_reducible refine Kd.C_alloc ?_ _) | (with_reducible refine Kd.C_drewN ?_ _) | (with_reducible refine Kd.C_drew ?_))); (case aB => exact (mB HB.out)); (case aF => exact (fun k_ hk => ⟨(Nat.le_trans (below_size (mB HB.out)) hk), Kd.fresh' (Kd.R_lt (mR HO_34.out)) k_ hk⟩)); (case aO => exact (mR HO446.out)); (case aS => exact (below_size (mB HB.out))); (case aL => have := LMc112.out; omega); intro v448 w123 ho hb hg hat; rw [← Ny447.out] at ho; have n0_ := Aside0.mk (Kd.V_afterv (ok := (fun k_ => (P3_ k_ ∨ w.heap.size ≤ k_) ∧ some k_ ≠ (.slice Ao124 t435.length co124 : Value).ownBlock ∧ some k_ ≠ (.slice (some ad430) y426.length co91 : Value).ownBlock)) (mV HO_3.out) hg hat); have n1_ := Aside0.mk (Kd.R_after (ok := (fun k_ => (w.heap.size ≤ k_))) (mR HO_34.out) hg hat); have n2_ := Aside0.mk (Kd.N_afterv (ok := (fun k_ => (P3_ k_ ∨ w.heap.size ≤ k_) ∧ some k_ ≠ (.slice Ao124 t435.length co124 : Value).ownBlock)) (mN HO_165.out) hg hat); have n3_ := Aside0.mk (hb); have n4_ := Aside0.mk (ho); clear HO_3; clear HO_34; clear HO_165; clear HB; clear HO446; have HO_3 := n0_; have HO_34 := n1_; have HO_165 := n2_; have HB := n3_; have HO449 := n4_; clear n0_ n1_ n2_ n3_ n4_; clear ho hb hg hat; obtain ⟨Ao125, co125, eo125⟩ := Kd.R_slice HO449.out; subst eo125) | (go_at_call 18; (with_reducible refine (dict_Decode.calls kj96 _ _ y447 a4 t450 t451 t452 _ ?side1 ?side2 A113.out).mono ?_); (case side1 => repeat (first | exact (Kd.R_reads' HO449.out).2.2 | (with_reducible refine Kd.C_alloc ?_ _) | (with_reducible refine Kd.C_drewN ?_ _) | (with_reducible refine Kd.C_drew ?_))); (case side2 => exact (Kd.R_reads' HO449.out).2.1); rintro e w126 ⟨v453, rfl, ho0, hb⟩; have n0_ := Aside0.mk (Kd.V_elder' (mV HO_3.out) (Kd.R_base ho0) hb); have n1_ := Aside0.mk (Kd.R_below (mR HO_34.out) hb); have n2_ := Aside0.mk (Kd.N_elder' (mN HO_165.out) (Kd.R_base ho0) hb); have n3_ := Aside0.mk (Kd.R_below (mR HO449.out) hb); have n4_ := Aside0.mk (Kd.R_lower (Kd.R_newM (M := fun k_ => (w.heap.size ≤ k_)) ho0 (below_size (mB HB.out)) (fun k_ h_ => h_)) (below_size (mB HB.out))); have n5_ := Aside0.mk (below_step (mB HB.out) hb); clear HO_3; clear HO_34; clear HO_165; clear HO449; clear HB; have HO_3 := n0_; have HO_34 := n1_; have HO_165 := n2_; have HO449 := n3_; have HO454 := n4_; have HB := n5_; clear n0_ n1_ n2_ n3_ n4_ n5_; (try clear hb); (try clear hb2); (try clear hk); (try clear hi); (try clear ho0)) | (go_at_call 27; (with_reducible refine (columbariumref7_Decode.calls kj96 _ _ y447 a4 t455 t456 t457 _ ?side1 ?side2 A114.out).mono ?_); (case side1 => repeat (first | exact (Kd.R_reads' HO449.out).2.2 | (with_reducible refine Kd.C_alloc ?_ _) | (with_reducible refine Kd.C_drewN ?_ _) | (with_reducible refine Kd.C_drew ?_))); (case side2 => exact (Kd.R_reads' HO449.out).2.1); rintro e w127 ⟨v458, rfl, ho0, hb⟩; have n0_ := Aside0.mk (Kd.V_elder' (mV HO_3.out) (Kd.R_base ho0) hb); have n1_ := Aside0.mk (Kd.R_below (mR HO_34.out) hb); have n2_ := Aside0.mk (Kd.N_elder' (mN HO_165.out) (Kd.R_base ho0) hb); have n3_ := Aside0.mk (Kd.R_below (mR HO449.out) hb); have n4_ := Aside0.mk (Kd.R_elder' (mR HO454.out) (Kd.R_base ho0) hb); have n5_ := Aside0.mk (Kd.R_lower (Kd.R_new' (Kd.R_newM (M := fun k_ => (w.heap.size ≤ k_)) ho0 (below_size (mB HB.out)) (fun k_ h_ => h_)) (Kd.R_lt (mR HO454.out))) (below_size (mB HB.out))); have n6_ := Aside0.mk (below_step (mB HB.out) hb); clear HO_3; clear HO_34; clear HO_165; clear HO449; clear HO454; clear HB; have HO_3 := n0_; have HO_34 := n1_; have HO_165 := n2_; have HO449 := n3_; have HO454 := n4_; have HO459 := n5_; have HB := n6_; clear n0_ n1_ n2_ n3_ n4_ n5_ n6_; (try clear hb); (try clear hb2); (try clear hk); (try clear hi); (try clear ho0); obtain ⟨Ao128, co128, eo128⟩ := Kd.R_slice HO454.out; subst eo128; obtain ⟨Ao129, co129, eo129⟩ := Kd.R_slice HO459.out; subst eo129) | (go_at_call 11; (with_reducible refine (columbariumkeep_Texts.calls kj96 _ _ t450 _ _ t455 true _ ?side1 ?side2 ?side3 ?side4 A115.out).mono ?_); (case side1 => repeat (first | exact (Kd.R_reads' HO454.out).2.2 | (with_reducible refine Kd.C_alloc ?_ _) | (with_reducible refine Kd.C_drewN ?_ _) | (with_reducible refine Kd.C_drew ?_))); (case side2 => exact (Kd.R_reads' HO454.out).2.1); (case side3 => repeat (first | exact (Kd.R_reads' HO459.out).2.2 | (with_reducible refine Kd.C_alloc ?_ _) | (with_reducible refine Kd.C_drewN ?_ _) | (with_reducible refine Kd.C_drew ?_))); (case side4 => exact (Kd.R_reads' HO459.out).2.1); rintro e w' ⟨rfl, ⟨nd, rfl⟩⟩; (try first | exact ⟨rfl, _, World.drewN_drewN _ _ _⟩ | exact ⟨rfl, _, Eq.trans (World.drewN_drewN _ _ _) (congrArg (World.drewN _) (Nat.add_assoc _ _ _))⟩))); try go_wp2_with (first | ((with_reducible refine gate_dst (N := 198) rfl ?_); (try (refine gate_guard (by rfl) ?_; dsimp only)); refine Kd.R_lit (Kd.int .u8) _ 5 ?hg (N := 198) ?hd (xs := ([] : List Int)) (inner := []) (ok := fun _ => True) (okp := fun _ => True) ?hr ?hp (fun _ hk => hk) trivial (Below.refl _ _) (Nat.le_refl _) (by simp) ?_; (case hd => rfl); (case hg => rfl); (case hr => first | (go_simp; done) | (go_simp; rfl)); (case hp => exact (Reps.none _ _)); intro v442 w119 ho120 hb hg_ hnew_; clear hg_ hnew_; (first | rw [← Ny441.out] at ho120 | (simp only [Int.reduceToNat] at ho120; rw [← Ny441.out] at ho120)); have n0_ := Aside0.mk (Kd.V_elder' (mV HO_3.out) (Kd.R_base ho120) hb); have n1_ := Aside0.mk (Kd.R_elder' (mR HO_34.out) (Kd.R_base ho120) hb); have n2_ := Aside0.mk (Kd.N_elder' (mN HO_165.out) (Kd.R_base ho120) hb); have n3_ := Aside0.mk (Kd.R_lower (Kd.R_new' (Kd.R_newM (M := fun k_ => (w.heap.size ≤ k_)) ho120 (below_size (mB HB.out)) (fun k_ h_ => h_)) (Kd.R_lt (mR HO_34.out))) (below_size (mB HB.out))); have n4_ := Aside0.mk (Kd.C_below (by repeat (first | (with_reducible exact HR430_0.out) | (with_reducible refine Kd.C_alloc ?_ _) | (with_reducible refine Kd.C_drewN ?_ _) | (with_reducible refine Kd.C_drew ?_) | exact HR430_0.out)) hb); have n5_ := Aside0.mk (below_step (mB HB.out) hb); clear HO_3; clear HO_34; clear HO_165; clear HR430_0; clear HB; have HO_3 := n0_; have HO_34 := n1_; have HO_165 := n2_; have HO443 := n3_; have HR430_0 := n4_; have HB := n5_; clear n0_ n1_ n2_ n3_ n4_ n5_; clear hb ho120; obtain ⟨Ao122, co122, eo122⟩ := Kd.V_slice HO_3.out; subst eo122) | ((with_reducible refine gate_builtin (b := .append) (xs := #[.tmp 198, .tmp 199]) rfl ?_); (try (refine gate_guard (by rfl) ?_; dsimp only)); at_builtin; refine Kd.R_append_rows (Kd.int .u8) (w0 := w) w.heap.size rfl (.tmp 198) (.tmp 199) 41 5 (.int .u8 0) 1 rfl Try.underlying41 info5 rfl (by decide) (by omega) v442 y441 x3_3 _ _ _ (fun k_ => (w.heap.size ≤ k_) ∧ some k_ ≠ (v437 : Value).ownBlock) (fun _ => False) rfl rfl ?aO ?aR (fun _ _ h => h) (fun _ h => h.elim) ?aF ?aB ?aS ?aL ?_; (case aR => repeat (first | exact (Kd.V_reads' HO_3.out).2.2 | (with_reducible refine Kd.C_alloc ?_ _) | (with_reducible refine Kd.C_drewN ?_ _) | (with_reducible refine Kd.C_drew ?_))); (case aB => exact (mB HB.out)); (case aF => exact (fun k_ hk => ⟨(Nat.le_trans (below_size (mB HB.out)) hk), Kd.fresh' (Kd.R_lt (mR HO_34.out)) k_ hk⟩)); (case aO => exact (by (with_reducible repeat (first | apply Kd.R_alloc | apply Kd.R_drewN | apply Kd.R_drew)); exact Kd.R_mono HO443.out (fun _ hk => ⟨hk.1.1, hk.2⟩))); (case aS => exact (below_size (mB HB.out))); (case aL => have := LMc111.out; omega); intro v445 w121 ho hb hg hat; rw [← Ny444.out] at ho; have n1_ := Aside0.mk (Kd.R_after (ok := (fun k_ => (w.heap.size ≤ k_))) (mR HO_34.out) hg hat); have n2_ := Aside0.mk (Kd.N_afterv (ok := (fun k_ => (P3_ k_ ∨ w.heap.size ≤ k_) ∧ some k_ ≠ (v437 : Value).ownBlock)) (mN HO_165.out) hg hat); have n3_ := Aside0.mk (hb); have n4_ := Aside0.mk (ho); clear HO_3; clear HO_34; clear HO_165; clear HB; clear HO443; have HO_34 := n1_; have HO_165 := n2_; have HB := n3_; have HO446 := n4_; clear n1_ n2_ n3_ n4_; clear ho hb hg hat; obtain ⟨Ao124, co124, eo124⟩ := Kd.R_slice HO_34.out; subst eo124) | ((with_reducible refine gate_builtin (b := .append) (xs := #[.tmp 200, .tmp 201]) rfl ?_); (try (refine gate_guard (by rfl) ?_; dsimp only)); at_builtin; refine Kd.R_append_rows (Kd.int .u8) (w0 := w) w.heap.size rfl (.tmp 200) (.tmp 201) 41 5 (.int .u8 0) 1 rfl Try.underlying41 info5 rfl (by decide) (by omega) v445 y444 t435 _ _ _ (fun k_ => (w.heap.size ≤ k_) ∧ some k_ ≠ (.slice Ao124 t435.length co124 : Value).ownBlock) (fun _ => False) rfl rfl ?aO ?aR (fun _ _ h => h) (fun _ h => h.elim) ?aF ?aB ?aS ?aL ?_; (case aR => repeat (first | exact (Kd.R_reads' HO_34.out).2.2 | (with_reducible refine Kd.C_alloc ?_ _) | (with_reducible refine Kd.C_drewN ?_ _) | (with_reducible refine Kd.C_drew ?_))); (case aB => exact (mB HB.out)); (case aF => exact (fun k_ hk => ⟨(Nat.le_trans (below_size (mB HB.out)) hk), Kd.fresh' (Kd.R_lt (mR HO_34.out)) k_ hk⟩)); (case aO => exact (mR HO446.out)); (case aS => exact (below_size (mB HB.out))); (case aL => have := LMc112.out; omega); intro v448 w123 ho hb hg hat; rw [← Ny447.out] at ho; have n2_ := Aside0.mk (Kd.N_afterv (ok := (fun k_ => (P3_ k_ ∨ w.heap.size ≤ k_) ∧ some k_ ≠ (.slice Ao124 t435.length co124 : Value).ownBlock)) (mN HO_165.out) hg hat); have n3_ := Aside0.mk (hb); have n4_ := Aside0.mk (ho); clear HO_34; clear HO_165; clear HB; clear HO446; have HO_165 := n2_; have HB := n3_; have HO449 := n4_; clear n2_ n3_ n4_; clear ho hb hg hat; obtain ⟨Ao125, co125, eo125⟩ := Kd.R_slice HO449.out; subst eo125) | (go_at_call 18; (with_reducible refine (dict_Decode.calls kj96 _ _ y447 a4 t450 t451 t452 _ ?side1 ?side2 A113.out).mono ?_); (case side1 => repeat (first | exact (Kd.R_reads' HO449.out).2.2 | (with_reducible refine Kd.C_alloc ?_ _) | (with_reducible refine Kd.C_drewN ?_ _) | (with_reducible refine Kd.C_drew ?_))); (case side2 => exact (Kd.R_reads' HO449.out).2.1); rintro e w126 ⟨v453, rfl, ho0, hb⟩; have n2_ := Aside0.mk (Kd.N_elder' (mN HO_165.out) (Kd.R_base ho0) hb); have n3_ := Aside0.mk (Kd.R_below (mR HO449.out) hb); have n4_ := Aside0.mk (Kd.R_lower (Kd.R_newM (M := fun k_ => (w.heap.size ≤ k_)) ho0 (below_size (mB HB.out)) (fun k_ h_ => h_)) (below_size (mB HB.out))); have n5_ := Aside0.mk (below_step (mB HB.out) hb); clear HO_165; clear HO449; clear HB; have HO_165 := n2_; have HO449 := n3_; have HO454 := n4_; have HB := n5_; clear n2_ n3_ n4_ n5_; (try clear hb); (try clear hb2); (try clear hk); (try clear hi); (try clear ho0)) | (go_at_call 27; (with_reducible refine (columbariumref7_Decode.calls kj96 _ _ y447 a4 t455 t456 t457 _ ?side1 ?side2 A114.out).mono ?_); (case side1 => repeat (first | exact (Kd.R_reads' HO449.out).2.2 | (with_reducible refine Kd.C_alloc ?_ _) | (with_reducible refine Kd.C_drewN ?_ _) | (with_reducible refine Kd.C_drew ?_))); (case side2 => exact (Kd.R_reads' HO449.out).2.1); rintro e w127 ⟨v458, rfl, ho0, hb⟩; have n2_ := Aside0.mk (Kd.N_elder' (mN HO_165.out) (Kd.R_base ho0) hb); have n3_ := Aside0.mk (Kd.R_below (mR HO449.out) hb); have n4_ := Aside0.mk (Kd.R_elder' (mR HO454.out) (Kd.R_base ho0) hb); have n5_ := Aside0.mk (Kd.R_lower (Kd.R_new' (Kd.R_newM (M := fun k_ => (w.heap.size ≤ k_)) ho0 (below_size (mB HB.out)) (fun k_ h_ => h_)) (Kd.R_lt (mR HO454.out))) (below_size (mB HB.out))); have n6_ := Aside0.mk (below_step (mB HB.out) hb); clear HO_165; clear HO449; clear HO454; clear HB; have HO_165 := n2_; have HO449 := n3_; have HO454 := n4_; have HO459 := n5_; have HB := n6_; clear n2_ n3_ n4_ n5_ n6_; (try clear hb); (try clear hb2); (try clear hk); (try clear hi); (try clear ho0); obtain ⟨Ao128, co128, eo128⟩ := Kd.R_slice HO454.out; subst eo128; obtain ⟨Ao129, co129, eo129⟩ := Kd.R_slice HO459.out; subst eo129) | (go_at_call 11; (with_reducible refine (columbariumkeep_Texts.calls kj96 _ _ t450 _ _ t455 true _ ?side1 ?side2 ?side3 ?side4 A115.out).mono ?_); (case side1 => repeat (first | exact (Kd.R_reads' HO454.out).2.2 | (with_reducible refine Kd.C_alloc ?_ _) | (with_reducible refine Kd.C_drewN ?_ _) | (with_reducible refine Kd.C_drew ?_))); (case side2 => exact (Kd.R_reads' HO454.out).2.1); (case side3 => repeat (first | exact (Kd.R_reads' HO459.out).2.2 | (with_reducible refine Kd.C_alloc ?_ _) | (with_reducible refine Kd.C_drewN ?_ _) | (with_reducible refine Kd.C_drew ?_))); (case side4 => exact (Kd.R_reads' HO459.out).2.1); rintro e w' ⟨rfl, ⟨nd, rfl⟩⟩; (try first | exact ⟨rfl, _, World.drewN_drewN _ _ _⟩ | exact ⟨rfl, _, Eq.trans (World.drewN_drewN _ _ _) (congrArg (World.drewN _) (Nat.add_assoc _ _ _))⟩))))
                     go_roundg kj96
                     case measure => have := HJ18.out; have := HK2.out; have := HK3.out; have := HJ96.out; omega
                     case rel => exact ⟨(y447), (wrap64 (x167_3 + 1)), (by first | rfl | (simp; done) | (simp [*]; done)), H', ⟨by have := HJ18.out; have := HK2.out; have := HK3.out; have := HJ96.out; omega⟩, ⟨Kd.R_V (by (with_reducible repeat (first | apply Kd.R_alloc | apply Kd.R_drewN | apply Kd.R_drew)); exact Kd.R_mono (Kd.R_apart' HO449.out (Kd.N_typed HO_165.out) (by decide)) (fun _ hk => ⟨.inr hk.1.1, hk.2⟩))⟩, ⟨by (with_reducible repeat (first | apply Kd.N_alloc | apply Kd.N_drewN | apply Kd.N_drew)); exact Kd.N_mono HO_165.out (fun _ hk => hk.1.1.1.1)⟩, ⟨mB HB.out⟩⟩
                    ·rw [if_neg c118] at H
                     have c118b0 : (t452 == t457) = false := beq_eq_false_iff_ne.mpr c118
                     have c118b1 : (t452 != t457) = true := bne_iff_ne.mpr c118
                     exact absurd ((Option.some.inj H).trans hrt_.out) (by decide)
                   ·rw [if_neg c117] at H
                    have c117b0 : (t451 == t456) = false := beq_eq_false_iff_ne.mpr c117
                    have c117b1 : (t451 != t456) = true := bne_iff_ne.mpr c117
                    exact absurd ((Option.some.inj H).trans hrt_.out) (by decide)
                  ·replace c116 := Bool.eq_false_iff.mpr c116
                   subst c116
                   have H1 : (some false) = some r := by rw [if_neg (show ¬ (false = true) by decide)] at H; exact H
                   clear H
                   have H := H1
                   clear H1
                   exact absurd ((Option.some.inj H).trans hrt_.out) (by decide)
                 ·rw [if_neg c112] at H
                  exact absurd H (by simp)
                ·rw [if_neg c111] at H
                 exact absurd H (by simp)
            ·rw [if_neg c94] at H
             exact absurd H (by simp)
           ·rw [if_neg c93] at H
            exact absurd H (by simp)
          ·rw [if_neg c92] at H
           have c92b0 : decide (x167_3 < (y426.length : Int)) = false := decide_eq_false c92
           clear c92
           replace H := Option.bind_eq_some_iff.mp H
           obtain ⟨t429, A1300, H⟩ := H
           replace H : (some t429) = some r := H
           have A130 := Aside0.mk A1300
           clear A1300
           obtain rfl := Option.some.inj H
           go_wp2_with (first | (go_at_call 12; (with_reducible refine (columbariumlaw7_known.calls k3  t429 _ A130.out).mono ?_); rintro e w131 ⟨rfl, hb⟩; have n0_ := Aside0.mk (Kd.V_below (mV HO_3.out) hb); have n1_ := Aside0.mk (Kd.N_below (mN HO_165.out) hb); have n2_ := Aside0.mk (below_step (mB HB.out) hb); clear HO_3; clear HO_165; clear HB; have HO_3 := n0_; have HO_165 := n1_; have HB := n2_; clear n0_ n1_ n2_; (try clear hb); (try clear hb2); (try clear hk); (try clear hi)))
           repeat (go_quiet (first | (go_at_call 12; (with_reducible refine (columbariumlaw7_known.calls k3  t429 _ A130.out).mono ?_); rintro e w131 ⟨rfl, hb⟩; have n0_ := Aside0.mk (Kd.V_below (mV HO_3.out) hb); have n1_ := Aside0.mk (Kd.N_below (mN HO_165.out) hb); have n2_ := Aside0.mk (below_step (mB HB.out) hb); clear HO_3; clear HO_165; clear HB; have HO_3 := n0_; have HO_165 := n1_; have HB := n2_; clear n0_ n1_ n2_; (try clear hb); (try clear hb2); (try clear hk); (try clear hi))); try go_wp2_with (first | (go_at_call 12; (with_reducible refine (columbariumlaw7_known.calls k3  t429 _ A130.out).mono ?_); rintro e w131 ⟨rfl, hb⟩; have n0_ := Aside0.mk (Kd.V_below (mV HO_3.out) hb); have n1_ := Aside0.mk (Kd.N_below (mN HO_165.out) hb); have n2_ := Aside0.mk (below_step (mB HB.out) hb); clear HO_3; clear HO_165; clear HB; have HO_3 := n0_; have HO_165 := n1_; have HB := n2_; clear n0_ n1_ n2_; (try clear hb); (try clear hb2); (try clear hk); (try clear hi))))
           go_ret
           exact ⟨by first | rfl | (simp [errW_none, errW_some] <;> rfl) | (simp [*, errW_none, errW_some] <;> rfl), mB HB.out⟩
 ·rw [if_neg c9] at H
  exact absurd H (by simp)

/-- THE ONE PURE STATEMENT of columbariumlaw7_DictTells: yours. -/
def columbariumlaw7_DictTells.Pure : Prop := ∀ (l0 : List ByteArray) (l1 : List ByteArray) (a2 : ByteArray) (l3 : List Int) (a4 : Int), l0.length ≤ maxLen → (∀ x ∈ l0, x.size ≤ maxLen) → l1.length ≤ maxLen → (∀ x ∈ l1, x.size ≤ maxLen) → a2.size ≤ 140737488351232 → l3.length ≤ maxLen → l3.length * 1 ≤ 140737488351232 → (∀ x ∈ l3, (Lit.int .u8 x).wf = true) → (Lit.int .i64 a4).wf = true → ∃ k, columbariumlaw7_DictTells.f k l0 l1 a2 l3 a4 = some true
theorem columbariumlaw7_DictTells.walk (P : columbariumlaw7_DictTells.Pure) (a0 : Option Addr) (cap0 : Nat) (l0 : List ByteArray) (a1 : Option Addr) (cap1 : Nat) (l1 : List ByteArray) (a2 : ByteArray) (a3 : Option Addr) (len3 cap3 : Nat) (z3 : List Int) (a4 : Int) (w : World) (hr0 : Kd.C Kd.string w a0 l0.length l0) (hc0 : l0.length ≤ cap0) (hm0 : l0.length ≤ maxLen) (hw0 : ∀ x ∈ l0, x.size ≤ maxLen) (hr1 : Kd.C Kd.string w a1 l1.length l1) (hc1 : l1.length ≤ cap1) (hm1 : l1.length ≤ maxLen) (hw1 : ∀ x ∈ l1, x.size ≤ maxLen) (w2 : a2.size ≤ 140737488351232) (w3 : (a3 = none ∧ len3 = 0 ∧ cap3 = 0 ∧ z3 = []) ∨ ∃ x, a3 = some x ∧ len3 ≤ cap3 ∧ cap3 ≤ maxLen ∧ z3.length = cap3 ∧ (∀ i, i < z3.length → w.cell? (x.add i) = some (.int .u8 (z3.getD i 0))) ∧ ∀ n ∈ z3, (Lit.int .u8 n).wf = true) (y3 : len3 * 1 ≤ 140737488351232) (w4 : (Lit.int .i64 a4).wf = true) :
  Calls Try.prog 7 #[.slice a0 l0.length cap0, .slice a1 l1.length cap1, .string a2, .slice a3 len3 cap3, .int .i64 a4] w fun e w' => e = .returned (.bool true) ∧ Below w.heap.size w w' := by
 obtain ⟨l3, rfl, hr3, hm3, hw3, hc3⟩ := ReadsInt.ofRowC w3
 obtain ⟨k, h⟩ := P l0 l1 a2 l3 a4 hm0 hw0 hm1 hw1 w2 hm3 y3 hw3 w4
 refine (columbariumlaw7_DictTells.calls k _ _ l0 _ _ l1 a2 (fun k_ => k_ < w.heap.size) _ _ l3 a4 true w hr0 hc0 hr1 hc1 (Kd.V_mk hc3 (Kd.C_F (Kd.heap_int .u8) (Kd.C_of_reads (d := (0 : Int)) (h1 := fun _ => rfl) hr3))) ⟨rfl⟩ h).mono ?_
 rintro e w' ⟨rfl, hd⟩
 exact ⟨rfl, hd⟩

end Go.Proofs.Ytllboaghcfeepaa.QDictTells
