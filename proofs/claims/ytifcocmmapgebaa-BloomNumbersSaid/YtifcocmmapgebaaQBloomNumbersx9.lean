-- Written by a program of this session (wip/myprint.py): the machine's side of a law
import Derived.Test.YtifcocmmapgebaaQBloomNumbersx0
import Derived.Test.YtifcocmmapgebaaQBloomNumbersx2
import Derived.Test.YtifcocmmapgebaaQBloomNumbersx3
import Derived.Test.YtifcocmmapgebaaQBloomNumbersx4
import Derived.Test.YtifcocmmapgebaaQBloomNumbersx5
import Derived.Test.YtifcocmmapgebaaQBloomNumbersx6
import Derived.Test.YtifcocmmapgebaaQBloomNumbersx8
namespace Go.Proofs.Ytifcocmmapgebaa.QBloomNumbers
open Go.RowKit Go.Proofs.YtifcocmmapgebaaW.PrintWords Go.Proofs.YtifcocmmapgebaaW.PrintLast Go.Proofs.YtifcocmmapgebaaW.PrintMore
attribute [local go_sem] max2_int min2_int max_two min_two max_three min_three max_four min_four   -- for this text's walks alone
set_option linter.unusedVariables false
set_option linter.unusedSimpArgs false

/-! ### columbariumlaw9_BloomNumbers: function 6 -/
mutual
def columbariumlaw9_BloomNumbers.l0 : Nat → List ByteArray → Int → Option (Bool)
 | 0, _, _ => none
 | k + 1, x1, x2 => if x2 < 100 then (if 5 + (Utf8.encode (wrap32 (wrap64 (97 + (Int.tmod x2 26))))).size ≤ 9223372036854775807 then (if ((⟨#[116, 101, 120, 116, 32]⟩ : ByteArray) ++ (Utf8.encode (wrap32 (wrap64 (97 + (Int.tmod x2 26)))))).size + (Utf8.encode (wrap32 (wrap64 (97 + (wrap64 (Int.tdiv x2 26)))))).size ≤ 9223372036854775807 then (if x1.length < 8796093022208 then ((some (x1 ++ [((⟨#[116, 101, 120, 116, 32]⟩ : ByteArray) ++ (Utf8.encode (wrap32 (wrap64 (97 + (Int.tmod x2 26)))))) ++ (Utf8.encode (wrap32 (wrap64 (97 + (wrap64 (Int.tdiv x2 26))))))] : List ByteArray)).bind fun y283 => ((bloom_Build.f k y283).bind fun bt286 => ((columbariumref9_Build.f k y283).bind fun bt291 => (if bt286.1 = bt291.1 then (if (strOfNums bt286.2).toList = (strOfNums bt291.2).toList then (columbariumlaw9_BloomNumbers.l0 k y283 (wrap64 (x2 + 1))) else (some false)) else (some false))))) else (none)) else (none)) else (none)) else (if 8 ≤ 281474976710656 then (if 12 ≤ 281474976710656 then (if 4 ≤ 281474976710656 then (if 8192 ≤ 281474976710656 then (if 16384 ≤ 281474976710656 then ((some (([(⟨0, ([] : List Int)⟩ : S26), (⟨64, ([] : List Int)⟩ : S26), (⟨64, (List.replicate 8 0)⟩ : S26), (⟨96, (List.replicate 12 0)⟩ : S26), (⟨32, (List.replicate 4 0)⟩ : S26), (⟨65536, (List.replicate 8192 0)⟩ : S26), (⟨131072, (List.replicate 16384 0)⟩ : S26), (⟨(-64), ([] : List Int)⟩ : S26)] : List (S26)) : List (S26))).bind fun y311 => (columbariumlaw9_BloomNumbers.l1 k y311 (y311.length : Int) 0)) else (none)) else (none)) else (none)) else (none)) else (none))
def columbariumlaw9_BloomNumbers.l1 : Nat → List (S26) → Int → Int → Option (Bool)
 | 0, _, _, _ => none
 | k + 1, x72, x73, x74 => if x74 < x73 then (if 0 ≤ x74 then (if x74 < (x72.length : Int) then ((bloom_Encode.f k ((rd_T26 x72 x74).f0) ((rd_T26 x72 x74).f1)).bind fun bt316 => ((columbariumlaw9_in.f ((rd_T26 x72 x74).f0) ((rd_T26 x72 x74).f1)).bind fun bt320 => ((columbariumref9_Encode.f k bt320.1 bt320.2).bind fun bt324 => ((bloom_Right.f ((rd_T26 x72 x74).f0) ((rd_T26 x72 x74).f1)).bind fun t328 => ((columbariumlaw9_in.f ((rd_T26 x72 x74).f0) ((rd_T26 x72 x74).f1)).bind fun bt329 => ((columbariumref9_Right.f k bt329.1 bt329.2).bind fun t333 => (if (t328 != t333) = true then (some false) else (if (strOfNums bt316.1).toList = (strOfNums bt324.1).toList then (if bt316.2 = bt324.2 then ((bloom_May.f k ((rd_T26 x72 x74).f0) ((rd_T26 x72 x74).f1) (⟨#[120]⟩ : ByteArray)).bind fun t334 => ((columbariumlaw9_in.f ((rd_T26 x72 x74).f0) ((rd_T26 x72 x74).f1)).bind fun bt335 => ((columbariumref9_May.f k bt335.1 bt335.2 (⟨#[120]⟩ : ByteArray)).bind fun t339 => (if (t334 != t339) = true then (some false) else (columbariumlaw9_BloomNumbers.l1 k x72 x73 (wrap64 (x74 + 1))))))) else (some false)) else (some false))))))))) else (none)) else (none)) else ((some (([[], (([64] : List Int)), (([64, 1, 2, 3, 4, 5, 6, 7] : List Int)), (([64, 1, 2, 3, 4, 5, 6, 7, 8] : List Int)), (([96, 1, 2, 3] : List Int)), (([128, 1, 1, 2, 3] : List Int)), (([128, 128, 8] : List Int))] : List (List Int)) : List (List Int))).bind fun y358 => (columbariumlaw9_BloomNumbers.l2 k y358 (y358.length : Int) 0))
def columbariumlaw9_BloomNumbers.l2 : Nat → List (List Int) → Int → Int → Option (Bool)
 | 0, _, _, _ => none
 | k + 1, x122, x123, x124 => if x124 < x123 then (if 0 ≤ x124 then (if x124 < (x122.length : Int) then ((bloom_Decode.f k (rd_L4 x122 x124) 0).bind fun bt370 => ((columbariumref9_Decode.f k (rd_L4 x122 x124) 0).bind fun bt377 => (if bt370.1 = bt377.1 then (if (strOfNums bt370.2.1).toList = (strOfNums bt377.2.1).toList then (if bt370.2.2.1 = bt377.2.2.1 then (if bt370.2.2.2 = bt377.2.2.2 then (columbariumlaw9_BloomNumbers.l2 k x122 x123 (wrap64 (x124 + 1))) else (some false)) else (some false)) else (some false)) else (some false)))) else (none)) else (none)) else ((bloom_Decode.f k ([] : List Int) (-1)).bind fun bt361 => (if bt361.2.2.2 = 1 then ((columbariumlaw9_known.f k).bind fun t368 => (some t368)) else (some false)))
end
def columbariumlaw9_BloomNumbers.f (k : Nat)  : Option (Bool) := columbariumlaw9_BloomNumbers.l0 k ([] : List ByteArray) 0
theorem columbariumlaw9_BloomNumbers.mono_l : ∀ k, (∀ y0 y1, LeO (columbariumlaw9_BloomNumbers.l0 k y0 y1) (columbariumlaw9_BloomNumbers.l0 (k + 1) y0 y1)) ∧ (∀ y0 y1 y2, LeO (columbariumlaw9_BloomNumbers.l1 k y0 y1 y2) (columbariumlaw9_BloomNumbers.l1 (k + 1) y0 y1 y2)) ∧ (∀ y0 y1 y2, LeO (columbariumlaw9_BloomNumbers.l2 k y0 y1 y2) (columbariumlaw9_BloomNumbers.l2 (k + 1) y0 y1 y2))
 | 0 => ⟨fun _ _ r h => by simp [columbariumlaw9_BloomNumbers.l0] at h, fun _ _ _ r h => by simp [columbariumlaw9_BloomNumbers.l1] at h, fun _ _ _ r h => by simp [columbariumlaw9_BloomNumbers.l2] at h⟩
 | k + 1 => by
  obtain ⟨ih0, ih1, ih2⟩ := columbariumlaw9_BloomNumbers.mono_l k
  refine ⟨?_, ?_, ?_⟩
  ·intro y0 y1
   unfold columbariumlaw9_BloomNumbers.l0
   repeat' first
   | (with_reducible exact ih0 _ _)
   | (with_reducible exact ih1 _ _ _)
   | (with_reducible exact ih2 _ _ _)
   | (with_reducible exact bloom_Build.mono _ _)
   | (with_reducible exact bloom_Decode.mono _ _ _)
   | (with_reducible exact bloom_Encode.mono _ _ _)
   | (with_reducible exact bloom_May.mono _ _ _ _)
   | (with_reducible exact columbariumlaw9_known.mono _)
   | (with_reducible exact columbariumref9_Build.mono _ _)
   | (with_reducible exact columbariumref9_Decode.mono _ _ _)
   | (with_reducible exact columbariumref9_Encode.mono _ _ _)
   | (with_reducible exact columbariumref9_May.mono _ _ _ _)
   | (with_reducible exact columbariumref9_Right.mono _ _ _)
   | (with_reducible exact LeO.refl _)
   | (with_reducible exact LeO.none _)
   | (with_reducible refine LeO.ite ?_ ?_)
   | (with_reducible refine LeO.bind ?_ (fun _ => ?_))
   | exact ih0 _ _
   | exact ih1 _ _ _
   | exact ih2 _ _ _
   | exact bloom_Build.mono _ _
   | exact bloom_Decode.mono _ _ _
   | exact bloom_Encode.mono _ _ _
   | exact bloom_May.mono _ _ _ _
   | exact columbariumlaw9_known.mono _
   | exact columbariumref9_Build.mono _ _
   | exact columbariumref9_Decode.mono _ _ _
   | exact columbariumref9_Encode.mono _ _ _
   | exact columbariumref9_May.mono _ _ _ _
   | exact columbariumref9_Right.mono _ _ _
   | exact LeO.none _
   | refine LeO.ite ?_ ?_
   | refine LeO.bind ?_ (fun _ => ?_)
  ·intro y0 y1 y2
   unfold columbariumlaw9_BloomNumbers.l1
   repeat' first
   | (with_reducible exact ih0 _ _)
   | (with_reducible exact ih1 _ _ _)
   | (with_reducible exact ih2 _ _ _)
   | (with_reducible exact bloom_Build.mono _ _)
   | (with_reducible exact bloom_Decode.mono _ _ _)
   | (with_reducible exact bloom_Encode.mono _ _ _)
   | (with_reducible exact bloom_May.mono _ _ _ _)
   | (with_reducible exact columbariumlaw9_known.mono _)
   | (with_reducible exact columbariumref9_Build.mono _ _)
   | (with_reducible exact columbariumref9_Decode.mono _ _ _)
   | (with_reducible exact columbariumref9_Encode.mono _ _ _)
   | (with_reducible exact columbariumref9_May.mono _ _ _ _)
   | (with_reducible exact columbariumref9_Right.mono _ _ _)
   | (with_reducible exact LeO.refl _)
   | (with_reducible exact LeO.none _)
   | (with_reducible refine LeO.ite ?_ ?_)
   | (with_reducible refine LeO.bind ?_ (fun _ => ?_))
   | exact ih0 _ _
   | exact ih1 _ _ _
   | exact ih2 _ _ _
   | exact bloom_Build.mono _ _
   | exact bloom_Decode.mono _ _ _
   | exact bloom_Encode.mono _ _ _
   | exact bloom_May.mono _ _ _ _
   | exact columbariumlaw9_known.mono _
   | exact columbariumref9_Build.mono _ _
   | exact columbariumref9_Decode.mono _ _ _
   | exact columbariumref9_Encode.mono _ _ _
   | exact columbariumref9_May.mono _ _ _ _
   | exact columbariumref9_Right.mono _ _ _
   | exact LeO.none _
   | refine LeO.ite ?_ ?_
   | refine LeO.bind ?_ (fun _ => ?_)
  ·intro y0 y1 y2
   unfold columbariumlaw9_BloomNumbers.l2
   repeat' first
   | (with_reducible exact ih0 _ _)
   | (with_reducible exact ih1 _ _ _)
   | (with_reducible exact ih2 _ _ _)
   | (with_reducible exact bloom_Build.mono _ _)
   | (with_reducible exact bloom_Decode.mono _ _ _)
   | (with_reducible exact bloom_Encode.mono _ _ _)
   | (with_reducible exact bloom_May.mono _ _ _ _)
   | (with_reducible exact columbariumlaw9_known.mono _)
   | (with_reducible exact columbariumref9_Build.mono _ _)
   | (with_reducible exact columbariumref9_Decode.mono _ _ _)
   | (with_reducible exact columbariumref9_Encode.mono _ _ _)
   | (with_reducible exact columbariumref9_May.mono _ _ _ _)
   | (with_reducible exact columbariumref9_Right.mono _ _ _)
   | (with_reducible exact LeO.refl _)
   | (with_reducible exact LeO.none _)
   | (with_reducible refine LeO.ite ?_ ?_)
   | (with_reducible refine LeO.bind ?_ (fun _ => ?_))
   | exact ih0 _ _
   | exact ih1 _ _ _
   | exact ih2 _ _ _
   | exact bloom_Build.mono _ _
   | exact bloom_Decode.mono _ _ _
   | exact bloom_Encode.mono _ _ _
   | exact bloom_May.mono _ _ _ _
   | exact columbariumlaw9_known.mono _
   | exact columbariumref9_Build.mono _ _
   | exact columbariumref9_Decode.mono _ _ _
   | exact columbariumref9_Encode.mono _ _ _
   | exact columbariumref9_May.mono _ _ _ _
   | exact columbariumref9_Right.mono _ _ _
   | exact LeO.none _
   | refine LeO.ite ?_ ?_
   | refine LeO.bind ?_ (fun _ => ?_)
theorem columbariumlaw9_BloomNumbers.mono : ∀ k, LeO (columbariumlaw9_BloomNumbers.f k ) (columbariumlaw9_BloomNumbers.f (k + 1) ) := by
 intro  k
 obtain ⟨ih0, ih1, ih2⟩ := columbariumlaw9_BloomNumbers.mono_l k
 unfold columbariumlaw9_BloomNumbers.f
 repeat' first
   | (with_reducible exact ih0 _ _)
   | (with_reducible exact ih1 _ _ _)
   | (with_reducible exact ih2 _ _ _)
   | (with_reducible exact bloom_Build.mono _ _)
   | (with_reducible exact bloom_Decode.mono _ _ _)
   | (with_reducible exact bloom_Encode.mono _ _ _)
   | (with_reducible exact bloom_May.mono _ _ _ _)
   | (with_reducible exact columbariumlaw9_known.mono _)
   | (with_reducible exact columbariumref9_Build.mono _ _)
   | (with_reducible exact columbariumref9_Decode.mono _ _ _)
   | (with_reducible exact columbariumref9_Encode.mono _ _ _)
   | (with_reducible exact columbariumref9_May.mono _ _ _ _)
   | (with_reducible exact columbariumref9_Right.mono _ _ _)
   | (with_reducible exact LeO.refl _)
   | (with_reducible exact LeO.none _)
   | (with_reducible refine LeO.ite ?_ ?_)
   | (with_reducible refine LeO.bind ?_ (fun _ => ?_))
   | exact ih0 _ _
   | exact ih1 _ _ _
   | exact ih2 _ _ _
   | exact bloom_Build.mono _ _
   | exact bloom_Decode.mono _ _ _
   | exact bloom_Encode.mono _ _ _
   | exact bloom_May.mono _ _ _ _
   | exact columbariumlaw9_known.mono _
   | exact columbariumref9_Build.mono _ _
   | exact columbariumref9_Decode.mono _ _ _
   | exact columbariumref9_Encode.mono _ _ _
   | exact columbariumref9_May.mono _ _ _ _
   | exact columbariumref9_Right.mono _ _ _
   | exact LeO.none _
   | refine LeO.ite ?_ ?_
   | refine LeO.bind ?_ (fun _ => ?_)
def columbariumlaw9_BloomNumbers.T10 : Bool × List (List Nat × List Nat) := (true, [([], []), ([], []), ([], []), ([2], [2]), ([], []), ([4], [4]), ([], []), ([6], [6]), ([], []), ([8], [8]), ([], []), ([10], [10]), ([], []), ([0, 1, 3, 5, 7, 9, 11, 12], [0, 1, 3, 5, 7, 9, 11, 12]), ([13], [13]), ([], [])])
def columbariumlaw9_BloomNumbers.B10 : List Nat := [0, 0, 0, 4, 0, 16, 0, 64, 0, 256, 0, 1024, 0, 8191, 16383, 0]
theorem columbariumlaw9_BloomNumbers.tab10 : rtab .any (opsOf Try.f6 10) = columbariumlaw9_BloomNumbers.T10 := by kernel_rfl
theorem columbariumlaw9_BloomNumbers.bits10 : waitsOk columbariumlaw9_BloomNumbers.T10.2 columbariumlaw9_BloomNumbers.B10 = true := by kernel_rfl
def columbariumlaw9_BloomNumbers.T15 : Bool × List (List Nat × List Nat) := (true, [([], []), ([0], [0]), ([], []), ([2, 1], [2]), ([3, 3], [3]), ([1, 4], [1, 4]), ([5, 4], [5]), ([6], [6]), ([7, 6], [6, 7]), ([6], [6]), ([9, 6], [6, 9]), ([8, 10, 6], [6, 8, 10]), ([6, 11], [6, 11]), ([12, 6], [12]), ([13], [13]), ([13], [13]), ([14, 15, 13], [13, 14, 15]), ([13, 16], [13, 16]), ([17, 13], [17]), ([18], [18]), ([19, 18, 18], [18, 19]), ([18], [18]), ([21, 20, 18], [18, 21]), ([22, 22, 18], [18, 22]), ([20, 23, 18], [18, 20, 23]), ([18, 24], [18, 24])])
def columbariumlaw9_BloomNumbers.B15 : List Nat := [0, 1, 0, 7, 15, 31, 63, 127, 255, 127, 639, 2047, 4095, 8191, 16383, 16383, 65535, 131071, 262143, 524287, 1048575, 524287, 4194303, 8388607, 16777215, 33554431]
theorem columbariumlaw9_BloomNumbers.tab15 : rtab .any (opsOf Try.f6 15) = columbariumlaw9_BloomNumbers.T15 := by kernel_rfl
theorem columbariumlaw9_BloomNumbers.bits15 : waitsOk columbariumlaw9_BloomNumbers.T15.2 columbariumlaw9_BloomNumbers.B15 = true := by kernel_rfl
set_option maxHeartbeats 8000000 in
set_option maxRecDepth 100000 in
theorem columbariumlaw9_BloomNumbers.calls (k : Nat)  (r : Bool) (w : World) (hrt_ : Aside0 (r = true)) (h : columbariumlaw9_BloomNumbers.f k  = some r) :
  Calls Try.prog 6 #[] w fun e w' => e = .returned (.bool r) ∧ Below w.heap.size w w' := by
 have hu26 := Try.underlying26
 have hu36 := Try.underlying36
 have HB := Aside0.mk (Below.refl w.heap.size w)
 have H : (columbariumlaw9_BloomNumbers.l0 k ([] : List ByteArray) 0) = some r := h
 clear h
 have H' := Aside0.mk H
 clear H
 go_enter Try.func6, Try.ntmps6
 go_wp2
 go_loopg [1, 2] k (fun kq v1 v2 w' => ∃ (x1_1 : List ByteArray) (x2_1 : Int), v2 = .int .i64 x2_1 ∧ Aside0 (columbariumlaw9_BloomNumbers.l0 kq x1_1 x2_1 = some r) ∧ Aside0 (kq ≤ k) ∧ Aside0 (Kd.R Kd.string 9 w' w.heap.size (fun _ => True) v1 x1_1) ∧ Aside0 (Below w.heap.size w w'))
 case atStart => exact ⟨(([] : List ByteArray)), (0), (by first | rfl | (simp; done) | (simp [*]; done)), H', ⟨Nat.le_refl _⟩, ⟨by first | exact Kd.R_nil _ _ _ _ _ | exact Kd.N_nil _ _ _ _ _ | exact Kd.V_nil _ _ _ _ _ | exact Kd.Q_nil _ _ _ _ _ | exact Kd.S_nil _ _ _ _ _⟩, ⟨mB HB.out⟩⟩
 case round =>
  clear H'
  obtain ⟨x1_1, x2_1, rfl, HA, HK1, HO_1, HB⟩ := hrel
  cases gk with
  | zero => exact absurd HA.out (by simp [columbariumlaw9_BloomNumbers.l0])
  | succ k1 =>
   have H := HA.out
   clear HA
   simp only [columbariumlaw9_BloomNumbers.l0] at H
   by_cases c1 : x2_1 < 100
   ·rw [if_pos c1] at H
    have c1b0 : decide (x2_1 < 100) = true := decide_eq_true c1
    clear c1
    by_cases c2 : 5 + (Utf8.encode (wrap32 (wrap64 (97 + (Int.tmod x2_1 26))))).size ≤ 9223372036854775807
    ·rw [if_pos c2] at H
     have c2b0 := eq_true c2
     have c2b1 : decide (5 + (Utf8.encode (wrap32 (wrap64 (97 + (Int.tmod x2_1 26))))).size ≤ 9223372036854775807) = true := decide_eq_true c2
     try have c2b2 : (9223372036854775807 < 5 + (Utf8.encode (wrap32 (wrap64 (97 + (Int.tmod x2_1 26))))).size) = False := eq_false (Nat.not_lt.2 c2)
     by_cases c3 : ((⟨#[116, 101, 120, 116, 32]⟩ : ByteArray) ++ (Utf8.encode (wrap32 (wrap64 (97 + (Int.tmod x2_1 26)))))).size + (Utf8.encode (wrap32 (wrap64 (97 + (wrap64 (Int.tdiv x2_1 26)))))).size ≤ 9223372036854775807
     ·rw [if_pos c3] at H
      have c3b0 := eq_true c3
      have c3b1 : decide (((⟨#[116, 101, 120, 116, 32]⟩ : ByteArray) ++ (Utf8.encode (wrap32 (wrap64 (97 + (Int.tmod x2_1 26)))))).size + (Utf8.encode (wrap32 (wrap64 (97 + (wrap64 (Int.tdiv x2_1 26)))))).size ≤ 9223372036854775807) = true := decide_eq_true c3
      try have c3b2 : (9223372036854775807 < ((⟨#[116, 101, 120, 116, 32]⟩ : ByteArray) ++ (Utf8.encode (wrap32 (wrap64 (97 + (Int.tmod x2_1 26)))))).size + (Utf8.encode (wrap32 (wrap64 (97 + (wrap64 (Int.tdiv x2_1 26)))))).size) = False := eq_false (Nat.not_lt.2 c3)
      by_cases c4 : x1_1.length < 8796093022208
      ·rw [if_pos c4] at H
       have LMc4 := Aside0.mk c4
       clear c4
       obtain ⟨y283, hy283⟩ : ∃ y_ : List ByteArray, y_ = (x1_1 ++ [((⟨#[116, 101, 120, 116, 32]⟩ : ByteArray) ++ (Utf8.encode (wrap32 (wrap64 (97 + (Int.tmod x2_1 26)))))) ++ (Utf8.encode (wrap32 (wrap64 (97 + (wrap64 (Int.tdiv x2_1 26))))))]) := ⟨_, rfl⟩
       replace H : ((bloom_Build.f k1 y283).bind fun bt286 => ((columbariumref9_Build.f k1 y283).bind fun bt291 => (if bt286.1 = bt291.1 then (if (strOfNums bt286.2).toList = (strOfNums bt291.2).toList then (columbariumlaw9_BloomNumbers.l0 k1 y283 (wrap64 (x2_1 + 1))) else (some false)) else (some false)))) = some r := by first | (rw [hy283]; with_reducible exact H) | (have H2_ := (Option.bind_some _ _).symm.trans H; rw [hy283]; with_reducible exact H2_) | (have H2_ := (Option.bind_some _ _).symm.trans H; with_reducible exact H2_) | with_reducible exact H | (rw [hy283]; exact H) | exact H
       have Ny283 := Aside0.mk hy283
       clear hy283
       replace H := Option.bind_eq_some_iff.mp H
       obtain ⟨⟨t286, t287⟩, A50, H⟩ := H
       replace H : ((columbariumref9_Build.f k1 y283).bind fun bt291 => (if t286 = bt291.1 then (if (strOfNums t287).toList = (strOfNums bt291.2).toList then (columbariumlaw9_BloomNumbers.l0 k1 y283 (wrap64 (x2_1 + 1))) else (some false)) else (some false))) = some r := H
       have A5 := Aside0.mk A50
       clear A50
       replace H := Option.bind_eq_some_iff.mp H
       obtain ⟨⟨t291, t292⟩, A60, H⟩ := H
       replace H : (if t286 = t291 then (if (strOfNums t287).toList = (strOfNums t292).toList then (columbariumlaw9_BloomNumbers.l0 k1 y283 (wrap64 (x2_1 + 1))) else (some false)) else (some false)) = some r := H
       have A6 := Aside0.mk A60
       clear A60
       by_cases c7 : t286 = t291
       ·rw [if_pos c7] at H
        have c7b0 : (t286 == t291) = true := beq_iff_eq.mpr c7
        have c7b1 : (t286 != t291) = false := bne_eq_false_iff_eq.mpr c7
        clear c7
        by_cases c8 : (strOfNums t287).toList = (strOfNums t292).toList
        ·rw [if_pos c8] at H
         have c8b0 : ((strOfNums t287).toList == (strOfNums t292).toList) = true := beq_iff_eq.mpr c8
         have c8b1 : ((strOfNums t287).toList != (strOfNums t292).toList) = false := bne_eq_false_iff_eq.mpr c8
         clear c8
         have H' := Aside0.mk H
         clear H
         go_wp2_with (first | ((with_reducible refine gate_builtin (b := .append) (xs := #[.tmp 26, .tmp 39]) rfl ?_); at_builtin; refine Kd.R_append Kd.string (w0 := w) w.heap.size rfl (.tmp 26) (.tmp 39) 22 9 (.string ⟨#[]⟩) 16 rfl Try.underlying22 info9 rfl (by decide) (by omega) u1 x1_1 (((⟨#[116, 101, 120, 116, 32]⟩ : ByteArray) ++ (Utf8.encode (wrap32 (wrap64 (97 + (Int.tmod x2_1 26)))))) ++ (Utf8.encode (wrap32 (wrap64 (97 + (wrap64 (Int.tdiv x2_1 26))))))) [.string (((⟨#[116, 101, 120, 116, 32]⟩ : ByteArray) ++ (Utf8.encode (wrap32 (wrap64 (97 + (Int.tmod x2_1 26)))))) ++ (Utf8.encode (wrap32 (wrap64 (97 + (wrap64 (Int.tdiv x2_1 26)))))))] (fun _ => True) (fun _ => False) rfl rfl ?aP (fun _ hk => hk.elim) ?aF ?aO ?aB ?aS ?aL ?_; (case aP => exact rfl); (case aB => exact (mB HB.out)); (case aF => exact (fun _ _ => trivial)); (case aO => exact (mR HO_1.out)); (case aS => exact (below_size (mB HB.out))); (case aL => have := LMc4.out; omega); intro v284 w9 ho hb hg hat; rw [← Ny283.out] at ho; have n0_ := Aside0.mk (hb); have n1_ := Aside0.mk (ho); clear HB; clear HO_1; have HB := n0_; have HO285 := n1_; clear n0_ n1_; clear ho hb hg hat; obtain ⟨Ao10, co10, eo10⟩ := Kd.R_slice HO285.out; subst eo10) | ((with_reducible refine gate_callee (f := 10) rfl ?_); refine goesL_ (some 42) rfl rfl Try.func10 (by kernel_rfl) rfl #[.slice Ao10 y283.length co10] rfl (by (try simp only [List.map_toArray, List.map_cons, List.map_nil]); first | done | rfl | (simp only [List.length_drop, List.length_take]; rfl)) ?_; (with_reducible refine (bloom_Build.calls k1 _ _ y283 t286 t287 _ ?side1 ?side2 A5.out).mono ?_); (case side1 => repeat (first | exact (Kd.R_reads' HO285.out).2.2 | (with_reducible refine Kd.C_alloc ?_ _) | (with_reducible refine Kd.C_drewN ?_ _) | (with_reducible refine Kd.C_drew ?_))); (case side2 => exact (Kd.R_reads' HO285.out).2.1); rintro e w11 ⟨v288, rfl, ho0, hb⟩; refine ⟨_, rfl, ?_⟩; have n0_ := Aside0.mk (Kd.R_below (mR HO285.out) hb); have n1_ := Aside0.mk (Kd.R_lower ho0 (below_size (mB HB.out))); have n2_ := Aside0.mk (below_step (mB HB.out) hb); clear HO285; clear HB; have HO285 := n0_; have HO289 := n1_; have HB := n2_; clear n0_ n1_ n2_; (try clear hb); (try clear hb2); (try clear hk); (try clear hi); (try clear ho0)) | ((with_reducible refine gate_dst (N := 3) rfl ?_); refine box_event ?hg (N := 3) ?hd (cs := #[.int .i64 0, .slice none 0 0]) (t := 26) ?hr ?_; (case hd => rfl); (case hg => rfl); (case hr => first | (go_simp; done) | (go_simp; rfl)); intro gb290 hg w12 hbox hb; have n0_ := Aside0.mk (Kd.R_below (mR HO285.out) hb); have n1_ := Aside0.mk (Kd.R_below (mR HO289.out) hb); have n2_ := Aside0.mk (below_step (mB HB.out) hb); have n3_ := Aside0.mk (hbox); have n4_ := Aside0.mk ((by rw [hg]; exact (below_size (mB HB.out)) : w.heap.size ≤ gb290)); have n5_ := n4_; clear HO285; clear HO289; clear HB; have HO285 := n0_; have HO289 := n1_; have HB := n2_; have BK290 := n3_; have GW290 := n4_; have GE290 := n5_; clear n0_ n1_ n2_ n3_ n4_ n5_; clear hb hbox hg; obtain ⟨hcz13_0, hcz13_1, hfz13_0, hfz13_1⟩ := cells_2 BK290.out; obtain ⟨Ao14, co14, eo14⟩ := Kd.R_slice HO289.out; subst eo14) | ((with_reducible refine gate_callee (f := 15) rfl ?_); refine goesL_ (some 44) rfl rfl Try.func15 (by kernel_rfl) rfl #[.slice Ao10 y283.length co10] rfl (by (try simp only [List.map_toArray, List.map_cons, List.map_nil]); first | done | rfl | (simp only [List.length_drop, List.length_take]; rfl)) ?_; (with_reducible refine (columbariumref9_Build.calls k1 _ _ y283 t291 t292 _ ?side1 ?side2 A6.out).mono ?_); (case side1 => refine (Kd.R_reads' (e := 9) (base := w.heap.size) (ok := fun k_ => True) (n := y283.length) (c := co10) ?_).2.2; exact (by (with_reducible repeat (first | apply Kd.R_alloc | apply Kd.R_drewN | apply Kd.R_drew)); exact (Kd.R_mono (Kd.R_far (p := ⟨gb290, 1, none⟩) (Kd.R_far (p := ⟨gb290, 0, none⟩) (Kd.R_types HO285.out BK290.out (by decide)) (fun _ hk => hk.2) (.int .i64 t286)) (fun _ hk => hk.2) (.slice Ao14 t287.length co14)) (fun _ h_ => h_.1)))); (case side2 => exact (Kd.R_reads' HO285.out).2.1); rintro e w15 ⟨v293, rfl, ho0, hb⟩; refine ⟨_, rfl, ?_⟩; have n0_ := Aside0.mk (Kd.R_below (by (with_reducible repeat (first | apply Kd.R_alloc | apply Kd.R_drewN | apply Kd.R_drew)); exact (Kd.R_mono (Kd.R_far (p := ⟨gb290, 1, none⟩) (Kd.R_far (p := ⟨gb290, 0, none⟩) (Kd.R_types HO285.out BK290.out (by decide)) (fun _ hk => hk.2) (.int .i64 t286)) (fun _ hk => hk.2) (.slice Ao14 t287.length co14)) (fun _ h_ => h_.1))) hb); have n1_ := Aside0.mk (Kd.R_elder' (by (with_reducible repeat (first | apply Kd.R_alloc | apply Kd.R_drewN | apply Kd.R_drew)); exact (Kd.R_mono (Kd.R_far (p := ⟨gb290, 1, none⟩) (Kd.R_far (p := ⟨gb290, 0, none⟩) (Kd.R_types HO289.out BK290.out (by decide)) (fun _ hk => hk.2) (.int .i64 t286)) (fun _ hk => hk.2) (.slice Ao14 t287.length co14)) (fun _ h_ => h_.1))) (Kd.R_base ho0) hb); have n2_ := Aside0.mk (Kd.R_lower (Kd.R_new' ho0 (Kd.R_lt (by (with_reducible repeat (first | apply Kd.R_alloc | apply Kd.R_drewN | apply Kd.R_drew)); exact (Kd.R_mono (Kd.R_far (p := ⟨gb290, 1, none⟩) (Kd.R_far (p := ⟨gb290, 0, none⟩) (Kd.R_types HO289.out BK290.out (by decide)) (fun _ hk => hk.2) (.int .i64 t286)) (fun _ hk => hk.2) (.slice Ao14 t287.length co14)) (fun _ h_ => h_.1))))) (below_size (by repeat (first | (with_reducible first | exact HB.out | apply below_alloc | apply pw_below_drewN | apply below_drew1 | refine below_set ?_ GE290.out) | exact HB.out)))); have n3_ := Aside0.mk (blk_below (g := gb290) (o := .cells #[.int .i64 t286, .slice Ao14 t287.length co14] 26 (0, 0)) (by (with_reducible repeat (first | refine blk_drewN ?_ _ | refine blk_drew ?_ | refine blk_alloc ?_ _)); refine blk_put (cs := #[.int .i64 t286, .slice none 0 0]) ?_ 1 _ rfl; (with_reducible repeat (first | refine blk_drewN ?_ _ | refine blk_drew ?_ | refine blk_alloc ?_ _)); refine blk_put (cs := #[.int .i64 0, .slice none 0 0]) ?_ 0 _ rfl; (with_reducible repeat (first | refine blk_drewN ?_ _ | refine blk_drew ?_ | refine blk_alloc ?_ _)); exact BK290.out) hb); have n4_ := Aside0.mk (below_step (by repeat (first | (with_reducible first | exact HB.out | apply below_alloc | apply pw_below_drewN | apply below_drew1 | refine below_set ?_ GE290.out) | exact HB.out)) hb); clear HO285; clear HO289; clear BK290; clear HB; have HO285 := n0_; have HO289 := n1_; have HO294 := n2_; have BK290 := n3_; have HB := n4_; clear n0_ n1_ n2_ n3_ n4_; (try clear hb); (try clear hb2); (try clear hk); (try clear hi); (try clear ho0)) | ((with_reducible refine gate_dst (N := 4) rfl ?_); refine box_event ?hg (N := 4) ?hd (cs := #[.int .i64 0, .slice none 0 0]) (t := 36) ?hr ?_; (case hd => rfl); (case hg => rfl); (case hr => first | (go_simp; done) | (go_simp; rfl)); intro gb295 hg w16 hbox hb; have n0_ := Aside0.mk (Kd.R_below (mR HO285.out) hb); have n1_ := Aside0.mk (Kd.R_below (mR HO289.out) hb); have n2_ := Aside0.mk (Kd.R_below (mR HO294.out) hb); have n3_ := Aside0.mk (blk_below (g := gb290) (o := .cells #[.int .i64 t286, .slice Ao14 t287.length co14] 26 (0, 0)) (mK BK290.out) hb); have n4_ := Aside0.mk (below_step (by repeat (first | (with_reducible first | exact HB.out | apply below_alloc | apply pw_below_drewN | apply below_drew1 | refine below_set ?_ GE290.out) | exact HB.out)) hb); have n5_ := Aside0.mk (hbox); have n6_ := Aside0.mk ((by rw [hg]; exact (below_size (by repeat (first | (with_reducible first | exact HB.out | apply below_alloc | apply pw_below_drewN | apply below_drew1 | refine below_set ?_ GE290.out) | exact HB.out))) : w.heap.size ≤ gb295)); have n7_ := n6_; have n8_ := Aside0.mk ((by rw [hg]; exact Nat.ne_of_lt (blk_lt (g := gb290) (o := .cells #[.int .i64 t286, .slice Ao14 t287.length co14] 26 (0, 0)) (mK BK290.out)) : gb290 ≠ gb295)); have n9_ := Aside0.mk ((by rw [hg]; exact Nat.ne_of_gt (blk_lt (g := gb290) (o := .cells #[.int .i64 t286, .slice Ao14 t287.length co14] 26 (0, 0)) (mK BK290.out)) : gb295 ≠ gb290)); clear HO285; clear HO289; clear HO294; clear BK290; clear HB; have HO285 := n0_; have HO289 := n1_; have HO294 := n2_; have BK290 := n3_; have HB := n4_; have BK295 := n5_; have GW295 := n6_; have GE295 := n7_; have NB290_295 := n8_; have NB295_290 := n9_; clear n0_ n1_ n2_ n3_ n4_ n5_ n6_ n7_ n8_ n9_; clear hb hbox hg; have hnb17 := NB295_290.out; have hnc17 := NB290_295.out; obtain ⟨hcz18_0, hcz18_1, hfz18_0, hfz18_1⟩ := cells_2 BK295.out; obtain ⟨Ao19, co19, eo19⟩ := Kd.R_slice HO294.out; subst eo19; obtain ⟨hcz20_0, hcz20_1, hfz20_0, hfz20_1⟩ := cells_2 BK290.out; have hcv21 := own_string (P := Try.prog) Try.underlying24 Try.underlying5 Try.underlying9 (Kd.own_of_R ((Kd.R_far (p := ⟨gb295, 1, none⟩) (Kd.R_far (p := ⟨gb295, 0, none⟩) (Kd.R_types HO289.out BK295.out (by decide)) (fun _ hk => hk.2) (.int .i64 t291)) (fun _ hk => hk.2) (.slice Ao19 t292.length co19)))); have hcv22 := own_string (P := Try.prog) Try.underlying24 Try.underlying5 Try.underlying9 (Kd.own_of_R ((Kd.R_far (p := ⟨gb295, 1, none⟩) (Kd.R_far (p := ⟨gb295, 0, none⟩) (Kd.R_types HO294.out BK295.out (by decide)) (fun _ hk => hk.2) (.int .i64 t291)) (fun _ hk => hk.2) (.slice Ao19 t292.length co19))))))
         go_roundg k1
         case measure => have := HK1.out; omega
         case rel => exact ⟨(y283), (wrap64 (x2_1 + 1)), (by first | rfl | (simp; done) | (simp [*]; done)), H', ⟨by have := HK1.out; omega⟩, ⟨by (with_reducible repeat (first | apply Kd.R_alloc | apply Kd.R_drewN | apply Kd.R_drew)); exact Kd.R_mono (Kd.R_far (p := ⟨gb295, 1, none⟩) (Kd.R_far (p := ⟨gb295, 0, none⟩) (Kd.R_types HO285.out BK295.out (by decide)) (fun _ hk => hk.2) (.int .i64 t291)) (fun _ hk => hk.2) (.slice Ao19 t292.length co19)) (fun _ hk => trivial)⟩, ⟨by repeat (first | (with_reducible first | exact HB.out | apply below_alloc | apply pw_below_drewN | apply below_drew1 | refine below_set ?_ GE290.out | refine below_set ?_ GE295.out) | exact HB.out)⟩⟩
        ·rw [if_neg c8] at H
         have c8b0 : ((strOfNums t287).toList == (strOfNums t292).toList) = false := beq_eq_false_iff_ne.mpr c8
         have c8b1 : ((strOfNums t287).toList != (strOfNums t292).toList) = true := bne_iff_ne.mpr c8
         exact absurd ((Option.some.inj H).trans hrt_.out) (by decide)
       ·rw [if_neg c7] at H
        have c7b0 : (t286 == t291) = false := beq_eq_false_iff_ne.mpr c7
        have c7b1 : (t286 != t291) = true := bne_iff_ne.mpr c7
        exact absurd ((Option.some.inj H).trans hrt_.out) (by decide)
      ·rw [if_neg c4] at H
       exact absurd H (by simp)
     ·rw [if_neg c3] at H
      exact absurd H (by simp)
    ·rw [if_neg c2] at H
     exact absurd H (by simp)
   ·rw [if_neg c1] at H
    have c1b0 : decide (x2_1 < 100) = false := decide_eq_false c1
    clear c1
    by_cases c23 : 8 ≤ 281474976710656
    ·rw [if_pos c23] at H
     have c23b0 := eq_true c23
     have c23b1 : decide (8 ≤ 281474976710656) = true := decide_eq_true c23
     clear c23
     obtain ⟨y296, hy296⟩ : ∃ y_ : List Int, y_ = (List.replicate 8 0) := ⟨_, rfl⟩
     replace H : (if 12 ≤ 281474976710656 then (if 4 ≤ 281474976710656 then (if 8192 ≤ 281474976710656 then (if 16384 ≤ 281474976710656 then ((some (([(⟨0, ([] : List Int)⟩ : S26), (⟨64, ([] : List Int)⟩ : S26), (⟨64, y296⟩ : S26), (⟨96, (List.replicate 12 0)⟩ : S26), (⟨32, (List.replicate 4 0)⟩ : S26), (⟨65536, (List.replicate 8192 0)⟩ : S26), (⟨131072, (List.replicate 16384 0)⟩ : S26), (⟨(-64), ([] : List Int)⟩ : S26)] : List (S26)) : List (S26))).bind fun y311 => (columbariumlaw9_BloomNumbers.l1 k1 y311 (y311.length : Int) 0)) else (none)) else (none)) else (none)) else (none)) = some r := by first | (rw [hy296]; with_reducible exact H) | (have H2_ := (Option.bind_some _ _).symm.trans H; rw [hy296]; with_reducible exact H2_) | (have H2_ := (Option.bind_some _ _).symm.trans H; with_reducible exact H2_) | with_reducible exact H | (rw [hy296]; exact H) | exact H
     have Ny296 := Aside0.mk hy296
     clear hy296
     by_cases c24 : 12 ≤ 281474976710656
     ·rw [if_pos c24] at H
      have c24b0 := eq_true c24
      have c24b1 : decide (12 ≤ 281474976710656) = true := decide_eq_true c24
      clear c24
      obtain ⟨y299, hy299⟩ : ∃ y_ : List Int, y_ = (List.replicate 12 0) := ⟨_, rfl⟩
      replace H : (if 4 ≤ 281474976710656 then (if 8192 ≤ 281474976710656 then (if 16384 ≤ 281474976710656 then ((some (([(⟨0, ([] : List Int)⟩ : S26), (⟨64, ([] : List Int)⟩ : S26), (⟨64, y296⟩ : S26), (⟨96, y299⟩ : S26), (⟨32, (List.replicate 4 0)⟩ : S26), (⟨65536, (List.replicate 8192 0)⟩ : S26), (⟨131072, (List.replicate 16384 0)⟩ : S26), (⟨(-64), ([] : List Int)⟩ : S26)] : List (S26)) : List (S26))).bind fun y311 => (columbariumlaw9_BloomNumbers.l1 k1 y311 (y311.length : Int) 0)) else (none)) else (none)) else (none)) = some r := by first | (rw [hy299]; with_reducible exact H) | (have H2_ := (Option.bind_some _ _).symm.trans H; rw [hy299]; with_reducible exact H2_) | (have H2_ := (Option.bind_some _ _).symm.trans H; with_reducible exact H2_) | with_reducible exact H | (rw [hy299]; exact H) | exact H
      have Ny299 := Aside0.mk hy299
      clear hy299
      by_cases c25 : 4 ≤ 281474976710656
      ·rw [if_pos c25] at H
       have c25b0 := eq_true c25
       have c25b1 : decide (4 ≤ 281474976710656) = true := decide_eq_true c25
       clear c25
       obtain ⟨y302, hy302⟩ : ∃ y_ : List Int, y_ = (List.replicate 4 0) := ⟨_, rfl⟩
       replace H : (if 8192 ≤ 281474976710656 then (if 16384 ≤ 281474976710656 then ((some (([(⟨0, ([] : List Int)⟩ : S26), (⟨64, ([] : List Int)⟩ : S26), (⟨64, y296⟩ : S26), (⟨96, y299⟩ : S26), (⟨32, y302⟩ : S26), (⟨65536, (List.replicate 8192 0)⟩ : S26), (⟨131072, (List.replicate 16384 0)⟩ : S26), (⟨(-64), ([] : List Int)⟩ : S26)] : List (S26)) : List (S26))).bind fun y311 => (columbariumlaw9_BloomNumbers.l1 k1 y311 (y311.length : Int) 0)) else (none)) else (none)) = some r := by first | (rw [hy302]; with_reducible exact H) | (have H2_ := (Option.bind_some _ _).symm.trans H; rw [hy302]; with_reducible exact H2_) | (have H2_ := (Option.bind_some _ _).symm.trans H; with_reducible exact H2_) | with_reducible exact H | (rw [hy302]; exact H) | exact H
       have Ny302 := Aside0.mk hy302
       clear hy302
       by_cases c26 : 8192 ≤ 281474976710656
       ·rw [if_pos c26] at H
        have c26b0 := eq_true c26
        have c26b1 : decide (8192 ≤ 281474976710656) = true := decide_eq_true c26
        clear c26
        obtain ⟨y305, hy305⟩ : ∃ y_ : List Int, y_ = (List.replicate 8192 0) := ⟨_, rfl⟩
        replace H : (if 16384 ≤ 281474976710656 then ((some (([(⟨0, ([] : List Int)⟩ : S26), (⟨64, ([] : List Int)⟩ : S26), (⟨64, y296⟩ : S26), (⟨96, y299⟩ : S26), (⟨32, y302⟩ : S26), (⟨65536, y305⟩ : S26), (⟨131072, (List.replicate 16384 0)⟩ : S26), (⟨(-64), ([] : List Int)⟩ : S26)] : List (S26)) : List (S26))).bind fun y311 => (columbariumlaw9_BloomNumbers.l1 k1 y311 (y311.length : Int) 0)) else (none)) = some r := by first | (rw [hy305]; with_reducible exact H) | (have H2_ := (Option.bind_some _ _).symm.trans H; rw [hy305]; with_reducible exact H2_) | (have H2_ := (Option.bind_some _ _).symm.trans H; with_reducible exact H2_) | with_reducible exact H | (rw [hy305]; exact H) | exact H
        have Ny305 := Aside0.mk hy305
        clear hy305
        by_cases c27 : 16384 ≤ 281474976710656
        ·rw [if_pos c27] at H
         have c27b0 := eq_true c27
         have c27b1 : decide (16384 ≤ 281474976710656) = true := decide_eq_true c27
         clear c27
         obtain ⟨y308, hy308⟩ : ∃ y_ : List Int, y_ = (List.replicate 16384 0) := ⟨_, rfl⟩
         replace H : ((some (([(⟨0, ([] : List Int)⟩ : S26), (⟨64, ([] : List Int)⟩ : S26), (⟨64, y296⟩ : S26), (⟨96, y299⟩ : S26), (⟨32, y302⟩ : S26), (⟨65536, y305⟩ : S26), (⟨131072, y308⟩ : S26), (⟨(-64), ([] : List Int)⟩ : S26)] : List (S26)) : List (S26))).bind fun y311 => (columbariumlaw9_BloomNumbers.l1 k1 y311 (y311.length : Int) 0)) = some r := by first | (rw [hy308]; with_reducible exact H) | (have H2_ := (Option.bind_some _ _).symm.trans H; rw [hy308]; with_reducible exact H2_) | (have H2_ := (Option.bind_some _ _).symm.trans H; with_reducible exact H2_) | with_reducible exact H | (rw [hy308]; exact H) | exact H
         have Ny308 := Aside0.mk hy308
         clear hy308
         obtain ⟨y311, hy311⟩ : ∃ y_ : List (S26), y_ = (([(⟨0, ([] : List Int)⟩ : S26), (⟨64, ([] : List Int)⟩ : S26), (⟨64, y296⟩ : S26), (⟨96, y299⟩ : S26), (⟨32, y302⟩ : S26), (⟨65536, y305⟩ : S26), (⟨131072, y308⟩ : S26), (⟨(-64), ([] : List Int)⟩ : S26)] : List (S26))) := ⟨_, rfl⟩
         replace H : (columbariumlaw9_BloomNumbers.l1 k1 y311 (y311.length : Int) 0) = some r := by first | (rw [hy311]; with_reducible exact H) | (have H2_ := (Option.bind_some _ _).symm.trans H; rw [hy311]; with_reducible exact H2_) | (have H2_ := (Option.bind_some _ _).symm.trans H; with_reducible exact H2_) | with_reducible exact H | (rw [hy311]; exact H) | exact H
         have Ny311 := Aside0.mk hy311
         clear hy311
         have H' := Aside0.mk H
         clear H
         try go_wp2
         have n0_ := Aside0.mk (Kd.R_drew HO_1.out)
         have n1_ := Aside0.mk (below_drew1 HB.out)
         clear HO_1
         clear HB
         have HO_1 := n0_
         have HB := n1_
         clear n0_ n1_
         refine start_ (n := 16) (S := fun w' => True) (ds := []) #[false, false, false, false, false, false, false, false, false, false, false, false, false, false, false, false] (by kernel_rfl) rfl rfl trivial (fun hHeld => ?_); refine with_tabW columbariumlaw9_BloomNumbers.tab10 columbariumlaw9_BloomNumbers.bits10 (fun HT_ HW_ => ?_)
         generalize wr.drew = w28 at HO_1 HB hHeld ⊢
         refine pure_ (i := 15) (N := some 74) (v := ?_) (a' := ?_) #[false, false, false, false, false, false, false, false, false, false, false, false, false, false, false, true] rfl rfl (any_of HT_.out (by kernel_rfl)) (fun _ _ _ h => h) (Or.inl ⟨by rfl, ?_⟩) ?_ ?_
         rotate_left
         ·intro w'
          go_simp
          with_reducible rfl
         rotate_left
         ·simp only [Act.put, List.setIfInBounds_toArray, List.set_cons_zero, List.set_cons_succ, i64_w, i32_w]
          rfl
         refine inv_at [0, 1, 2, 3, 4, 5, 6, 7, 8, 9, 10, 11, 12, 13, 14] (fun a0_ b a w' => ∃ (v297 : Value) (v300 : Value) (v303 : Value) (v306 : Value) (v309 : Value) (v312 : Value) (m3_ : Value) (m5_ : Value) (m7_ : Value) (m9_ : Value) (m11_ : Value), a = putSel a0_ b [(0, 59, .agg #[.int .i64 0, .slice none 0 0]), (1, 60, .agg #[.int .i64 64, .slice none 0 0]), (2, 61, v297), (3, 62, m3_), (4, 63, v300), (5, 64, m5_), (6, 65, v303), (7, 66, m7_), (8, 67, v306), (9, 68, m9_), (10, 69, v309), (11, 70, m11_), (12, 71, .agg #[.int .i64 (-64), .slice none 0 0]), (13, 72, v312), (14, 73, .int .i64 (y311.length : Int))] ∧ (Kd.R Kd.string 9 w' w.heap.size (fun _ => True) u1 x1_1) ∧ (Below w.heap.size w w') ∧ (b 2 = true → b 13 = false → Kd.R (Kd.int .u8) 5 w' w.heap.size (fun _ => True) v297 y296) ∧ (b 4 = true → b 13 = false → Kd.R (Kd.int .u8) 5 w' w.heap.size (fun _ => True) v300 y299) ∧ (b 6 = true → b 13 = false → Kd.R (Kd.int .u8) 5 w' w.heap.size (fun _ => True) v303 y302) ∧ (b 8 = true → b 13 = false → Kd.R (Kd.int .u8) 5 w' w.heap.size (fun _ => True) v306 y305) ∧ (b 10 = true → b 13 = false → Kd.R (Kd.int .u8) 5 w' w.heap.size (fun _ => True) v309 y308) ∧ (b 13 = true → Kd.N k26 26 w' w.heap.size (fun k_ => some k_ ≠ (u1 : Value).ownBlock) v312 y311) ∧ (b 3 = true → (m3_ : Value) = .agg #[.int .i64 64, v297]) ∧ (b 5 = true → (m5_ : Value) = .agg #[.int .i64 96, v300]) ∧ (b 7 = true → (m7_ : Value) = .agg #[.int .i64 32, v303]) ∧ (b 9 = true → (m9_ : Value) = .agg #[.int .i64 65536, v306]) ∧ (b 11 = true → (m11_ : Value) = .agg #[.int .i64 131072, v309])) HT_.out HW_.out (by kernel_rfl) (by kernel_rfl) ?_ ?_ ?_
         ·exact ⟨.bool false, .bool false, .bool false, .bool false, .bool false, .bool false, .bool false, .bool false, .bool false, .bool false, .bool false, by simp only [putSel, Bool.false_eq_true, if_false], HO_1.out, HB.out, fun h_ => absurd h_ (by decide), fun h_ => absurd h_ (by decide), fun h_ => absurd h_ (by decide), fun h_ => absurd h_ (by decide), fun h_ => absurd h_ (by decide), fun h_ => absurd h_ (by decide), fun h_ => absurd h_ (by decide), fun h_ => absurd h_ (by decide), fun h_ => absurd h_ (by decide), fun h_ => absurd h_ (by decide), fun h_ => absurd h_ (by decide)⟩
         ·skip
          clear HB HO_1
          refine steps_cons ?_ ?_
          ·rintro b a w' ⟨v297, v300, v303, v306, v309, v312, m3_, m5_, m7_, m9_, m11_, ha, Q_HO_1, Q_HB, Q_HO298, Q_HO301, Q_HO304, Q_HO307, Q_HO310, Q_HO313, Q_X3_, Q_X5_, Q_X7_, Q_X9_, Q_X11_⟩ hb_ hon hoff
           refine ⟨_, rfl, fun K hK => ?_⟩
           replace ha := Aside0.mk ha
           have HO_1 := Aside0.mk Q_HO_1
           have HB := Aside0.mk Q_HB
           refine value_ (w1 := w') (v := .agg #[.int .i64 0, .slice none 0 0]) (by rfl) rfl ?_ ?_
           ·go_simp
            (try simp only [i64_w])
            try rfl
           refine hK.out _ _ ⟨v297, v300, v303, v306, v309, v312, m3_, m5_, m7_, m9_, m11_, (by rw [ha.out]; exact putSel_upk 0 hb_ rfl rfl rfl), Q_HO_1, Q_HB, Q_HO298, Q_HO301, Q_HO304, Q_HO307, Q_HO310, fun h0_ => absurd ((hoff 13 (by kernel_rfl)).symm.trans h0_) (by decide), Q_X3_, Q_X5_, Q_X7_, Q_X9_, Q_X11_⟩
          refine steps_cons ?_ ?_
          ·rintro b a w' ⟨v297, v300, v303, v306, v309, v312, m3_, m5_, m7_, m9_, m11_, ha, Q_HO_1, Q_HB, Q_HO298, Q_HO301, Q_HO304, Q_HO307, Q_HO310, Q_HO313, Q_X3_, Q_X5_, Q_X7_, Q_X9_, Q_X11_⟩ hb_ hon hoff
           refine ⟨_, rfl, fun K hK => ?_⟩
           replace ha := Aside0.mk ha
           have HO_1 := Aside0.mk Q_HO_1
           have HB := Aside0.mk Q_HB
           refine value_ (w1 := w') (v := .agg #[.int .i64 64, .slice none 0 0]) (by rfl) rfl ?_ ?_
           ·go_simp
            (try simp only [i64_w])
            try rfl
           refine hK.out _ _ ⟨v297, v300, v303, v306, v309, v312, m3_, m5_, m7_, m9_, m11_, (by rw [ha.out]; exact putSel_upk 1 hb_ rfl rfl rfl), Q_HO_1, Q_HB, Q_HO298, Q_HO301, Q_HO304, Q_HO307, Q_HO310, fun h0_ => absurd ((hoff 13 (by kernel_rfl)).symm.trans h0_) (by decide), Q_X3_, Q_X5_, Q_X7_, Q_X9_, Q_X11_⟩
          refine steps_cons ?_ ?_
          ·rintro b a w' ⟨v297, v300, v303, v306, v309, v312, m3_, m5_, m7_, m9_, m11_, ha, Q_HO_1, Q_HB, Q_HO298, Q_HO301, Q_HO304, Q_HO307, Q_HO310, Q_HO313, Q_X3_, Q_X5_, Q_X7_, Q_X9_, Q_X11_⟩ hb_ hon hoff
           refine ⟨_, rfl, fun K hK => ?_⟩
           replace ha := Aside0.mk ha
           have HO_1 := Aside0.mk Q_HO_1
           have HB := Aside0.mk Q_HB
           refine Kd.R_make_step (Kd.int .u8) _ 5 (by rfl) (N := 61) rfl 24 _ _ rfl 8 rfl rfl Try.underlying24 (.int .u8 0) 1 info5 rfl (by decide) (by omega) 0 (ok := fun _ => True) (okp := fun _ => True) rfl (fun _ hk => hk) trivial (by omega) (by omega) (Below.refl _ _) (Nat.le_refl _) ?_
           intro v297 w29 ho30 hb hg_ hnew_
           clear hg_ hnew_
           (first | rw [← Ny296.out] at ho30 | (simp only [Int.reduceToNat] at ho30; rw [← Ny296.out] at ho30))
           have n0_ := Aside0.mk (Kd.R_below (mR HO_1.out) hb)
           have n1_ := Aside0.mk (Kd.R_lower ho30 (below_size (mB HB.out)))
           have n2_ := Aside0.mk (below_step (mB HB.out) hb)
           have z_HO301 := fun (h0_ : b 4 = true) (h1_ : b 13 = false) => (show Kd.R (Kd.int .u8) 5 w29 w.heap.size (fun _ => True) v300 y299 from by first | exact (Kd.R_elder' (by (with_reducible repeat (first | apply Kd.R_alloc | apply Kd.R_drewN | apply Kd.R_drew)); exact (Q_HO301 h0_ h1_)) (Kd.R_base ho30) hb) | exact Kd.R_mono (Kd.R_elder' (by (with_reducible repeat (first | apply Kd.R_alloc | apply Kd.R_drewN | apply Kd.R_drew)); exact (Q_HO301 h0_ h1_)) (Kd.R_base ho30) hb) (fun _ h_ => by first | trivial | exact h_ | exact h_.1))
           have z_HO304 := fun (h0_ : b 6 = true) (h1_ : b 13 = false) => (show Kd.R (Kd.int .u8) 5 w29 w.heap.size (fun _ => True) v303 y302 from by first | exact (Kd.R_elder' (by (with_reducible repeat (first | apply Kd.R_alloc | apply Kd.R_drewN | apply Kd.R_drew)); exact (Q_HO304 h0_ h1_)) (Kd.R_base ho30) hb) | exact Kd.R_mono (Kd.R_elder' (by (with_reducible repeat (first | apply Kd.R_alloc | apply Kd.R_drewN | apply Kd.R_drew)); exact (Q_HO304 h0_ h1_)) (Kd.R_base ho30) hb) (fun _ h_ => by first | trivial | exact h_ | exact h_.1))
           have z_HO307 := fun (h0_ : b 8 = true) (h1_ : b 13 = false) => (show Kd.R (Kd.int .u8) 5 w29 w.heap.size (fun _ => True) v306 y305 from by first | exact (Kd.R_elder' (by (with_reducible repeat (first | apply Kd.R_alloc | apply Kd.R_drewN | apply Kd.R_drew)); exact (Q_HO307 h0_ h1_)) (Kd.R_base ho30) hb) | exact Kd.R_mono (Kd.R_elder' (by (with_reducible repeat (first | apply Kd.R_alloc | apply Kd.R_drewN | apply Kd.R_drew)); exact (Q_HO307 h0_ h1_)) (Kd.R_base ho30) hb) (fun _ h_ => by first | trivial | exact h_ | exact h_.1))
           have z_HO310 := fun (h0_ : b 10 = true) (h1_ : b 13 = false) => (show Kd.R (Kd.int .u8) 5 w29 w.heap.size (fun _ => True) v309 y308 from by first | exact (Kd.R_elder' (by (with_reducible repeat (first | apply Kd.R_alloc | apply Kd.R_drewN | apply Kd.R_drew)); exact (Q_HO310 h0_ h1_)) (Kd.R_base ho30) hb) | exact Kd.R_mono (Kd.R_elder' (by (with_reducible repeat (first | apply Kd.R_alloc | apply Kd.R_drewN | apply Kd.R_drew)); exact (Q_HO310 h0_ h1_)) (Kd.R_base ho30) hb) (fun _ h_ => by first | trivial | exact h_ | exact h_.1))
           clear HO_1
           clear HB
           have HO_1 := n0_
           have HO298 := n1_
           have HB := n2_
           clear n0_ n1_ n2_
           clear hb ho30
           obtain ⟨Ao31, co31, eo31⟩ := Kd.R_slice HO298.out
           (first | subst eo31 | (injection eo31 with f1_ f2_ f3_; have f4_ := f1_.symm; have f5_ := f3_.symm; clear f1_ f2_ f3_; subst f4_; subst f5_))
           refine hK.out _ _ ⟨.slice Ao31 y296.length co31, v300, v303, v306, v309, v312, m3_, m5_, m7_, m9_, m11_, (by rw [ha.out]; exact putSel_upk 2 hb_ rfl rfl rfl), (mR HO_1.out), (mB HB.out), fun _ _ => (mR HO298.out), z_HO301, z_HO304, z_HO307, z_HO310, fun h0_ => absurd ((hoff 13 (by kernel_rfl)).symm.trans h0_) (by decide), fun h0_ => absurd ((hoff 3 (by kernel_rfl)).symm.trans h0_) (by decide), Q_X5_, Q_X7_, Q_X9_, Q_X11_⟩
          refine steps_cons ?_ ?_
          ·rintro b a w' ⟨v297, v300, v303, v306, v309, v312, m3_, m5_, m7_, m9_, m11_, ha, Q_HO_1, Q_HB, Q_HO298, Q_HO301, Q_HO304, Q_HO307, Q_HO310, Q_HO313, Q_X3_, Q_X5_, Q_X7_, Q_X9_, Q_X11_⟩ hb_ hon hoff
           refine ⟨_, rfl, fun K hK => ?_⟩
           have e61 : a.tmps[61]? = some (v297) := by rw [ha]; exact putSel_on (e := (2, 61, v297)) 2 rfl rfl (hon 2 (by kernel_rfl)) rfl
           replace ha := Aside0.mk ha
           have HO_1 := Aside0.mk Q_HO_1
           have HB := Aside0.mk Q_HB
           have HO298 := Aside0.mk (Q_HO298 (hon 2 (by kernel_rfl)) (hoff 13 (by kernel_rfl)))
           obtain ⟨Ao3_0, co3_0, eo_⟩ := Kd.R_slice HO298.out
           subst eo_
           refine value_ (w1 := w') (v := .agg #[.int .i64 64, .slice Ao3_0 y296.length co3_0]) (by rfl) rfl ?_ ?_
           ·go_simp
            (try simp only [i64_w])
            try rfl
           refine hK.out _ _ ⟨.slice Ao3_0 y296.length co3_0, v300, v303, v306, v309, v312, (.agg #[.int .i64 64, .slice Ao3_0 y296.length co3_0]), m5_, m7_, m9_, m11_, (by rw [ha.out]; exact putSel_upk 3 hb_ rfl rfl rfl), Q_HO_1, Q_HB, Q_HO298, Q_HO301, Q_HO304, Q_HO307, Q_HO310, fun h0_ => absurd ((hoff 13 (by kernel_rfl)).symm.trans h0_) (by decide), fun _ => rfl, Q_X5_, Q_X7_, Q_X9_, Q_X11_⟩
          refine steps_cons ?_ ?_
          ·rintro b a w' ⟨v297, v300, v303, v306, v309, v312, m3_, m5_, m7_, m9_, m11_, ha, Q_HO_1, Q_HB, Q_HO298, Q_HO301, Q_HO304, Q_HO307, Q_HO310, Q_HO313, Q_X3_, Q_X5_, Q_X7_, Q_X9_, Q_X11_⟩ hb_ hon hoff
           refine ⟨_, rfl, fun K hK => ?_⟩
           replace ha := Aside0.mk ha
           have HO_1 := Aside0.mk Q_HO_1
           have HB := Aside0.mk Q_HB
           refine Kd.R_make_step (Kd.int .u8) _ 5 (by rfl) (N := 63) rfl 24 _ _ rfl 12 rfl rfl Try.underlying24 (.int .u8 0) 1 info5 rfl (by decide) (by omega) 0 (ok := fun _ => True) (okp := fun _ => True) rfl (fun _ hk => hk) trivial (by omega) (by omega) (Below.refl _ _) (Nat.le_refl _) ?_
           intro v300 w29 ho30 hb hg_ hnew_
           clear hg_ hnew_
           (first | rw [← Ny299.out] at ho30 | (simp only [Int.reduceToNat] at ho30; rw [← Ny299.out] at ho30))
           have n0_ := Aside0.mk (Kd.R_below (mR HO_1.out) hb)
           have n1_ := Aside0.mk (Kd.R_lower ho30 (below_size (mB HB.out)))
           have n2_ := Aside0.mk (below_step (mB HB.out) hb)
           have z_HO298 := fun (h0_ : b 2 = true) (h1_ : b 13 = false) => (show Kd.R (Kd.int .u8) 5 w29 w.heap.size (fun _ => True) v297 y296 from by first | exact (Kd.R_elder' (by (with_reducible repeat (first | apply Kd.R_alloc | apply Kd.R_drewN | apply Kd.R_drew)); exact (Q_HO298 h0_ h1_)) (Kd.R_base ho30) hb) | exact Kd.R_mono (Kd.R_elder' (by (with_reducible repeat (first | apply Kd.R_alloc | apply Kd.R_drewN | apply Kd.R_drew)); exact (Q_HO298 h0_ h1_)) (Kd.R_base ho30) hb) (fun _ h_ => by first | trivial | exact h_ | exact h_.1))
           have z_HO304 := fun (h0_ : b 6 = true) (h1_ : b 13 = false) => (show Kd.R (Kd.int .u8) 5 w29 w.heap.size (fun _ => True) v303 y302 from by first | exact (Kd.R_elder' (by (with_reducible repeat (first | apply Kd.R_alloc | apply Kd.R_drewN | apply Kd.R_drew)); exact (Q_HO304 h0_ h1_)) (Kd.R_base ho30) hb) | exact Kd.R_mono (Kd.R_elder' (by (with_reducible repeat (first | apply Kd.R_alloc | apply Kd.R_drewN | apply Kd.R_drew)); exact (Q_HO304 h0_ h1_)) (Kd.R_base ho30) hb) (fun _ h_ => by first | trivial | exact h_ | exact h_.1))
           have z_HO307 := fun (h0_ : b 8 = true) (h1_ : b 13 = false) => (show Kd.R (Kd.int .u8) 5 w29 w.heap.size (fun _ => True) v306 y305 from by first | exact (Kd.R_elder' (by (with_reducible repeat (first | apply Kd.R_alloc | apply Kd.R_drewN | apply Kd.R_drew)); exact (Q_HO307 h0_ h1_)) (Kd.R_base ho30) hb) | exact Kd.R_mono (Kd.R_elder' (by (with_reducible repeat (first | apply Kd.R_alloc | apply Kd.R_drewN | apply Kd.R_drew)); exact (Q_HO307 h0_ h1_)) (Kd.R_base ho30) hb) (fun _ h_ => by first | trivial | exact h_ | exact h_.1))
           have z_HO310 := fun (h0_ : b 10 = true) (h1_ : b 13 = false) => (show Kd.R (Kd.int .u8) 5 w29 w.heap.size (fun _ => True) v309 y308 from by first | exact (Kd.R_elder' (by (with_reducible repeat (first | apply Kd.R_alloc | apply Kd.R_drewN | apply Kd.R_drew)); exact (Q_HO310 h0_ h1_)) (Kd.R_base ho30) hb) | exact Kd.R_mono (Kd.R_elder' (by (with_reducible repeat (first | apply Kd.R_alloc | apply Kd.R_drewN | apply Kd.R_drew)); exact (Q_HO310 h0_ h1_)) (Kd.R_base ho30) hb) (fun _ h_ => by first | trivial | exact h_ | exact h_.1))
           clear HO_1
           clear HB
           have HO_1 := n0_
           have HO301 := n1_
           have HB := n2_
           clear n0_ n1_ n2_
           clear hb ho30
           obtain ⟨Ao31, co31, eo31⟩ := Kd.R_slice HO301.out
           (first | subst eo31 | (injection eo31 with f1_ f2_ f3_; have f4_ := f1_.symm; have f5_ := f3_.symm; clear f1_ f2_ f3_; subst f4_; subst f5_))
           refine hK.out _ _ ⟨v297, .slice Ao31 y299.length co31, v303, v306, v309, v312, m3_, m5_, m7_, m9_, m11_, (by rw [ha.out]; exact putSel_upk 4 hb_ rfl rfl rfl), (mR HO_1.out), (mB HB.out), z_HO298, fun _ _ => (mR HO301.out), z_HO304, z_HO307, z_HO310, fun h0_ => absurd ((hoff 13 (by kernel_rfl)).symm.trans h0_) (by decide), Q_X3_, fun h0_ => absurd ((hoff 5 (by kernel_rfl)).symm.trans h0_) (by decide), Q_X7_, Q_X9_, Q_X11_⟩
          refine steps_cons ?_ ?_
          ·rintro b a w' ⟨v297, v300, v303, v306, v309, v312, m3_, m5_, m7_, m9_, m11_, ha, Q_HO_1, Q_HB, Q_HO298, Q_HO301, Q_HO304, Q_HO307, Q_HO310, Q_HO313, Q_X3_, Q_X5_, Q_X7_, Q_X9_, Q_X11_⟩ hb_ hon hoff
           refine ⟨_, rfl, fun K hK => ?_⟩
           have e63 : a.tmps[63]? = some (v300) := by rw [ha]; exact putSel_on (e := (4, 63, v300)) 4 rfl rfl (hon 4 (by kernel_rfl)) rfl
           replace ha := Aside0.mk ha
           have HO_1 := Aside0.mk Q_HO_1
           have HB := Aside0.mk Q_HB
           have HO301 := Aside0.mk (Q_HO301 (hon 4 (by kernel_rfl)) (hoff 13 (by kernel_rfl)))
           obtain ⟨Ao5_0, co5_0, eo_⟩ := Kd.R_slice HO301.out
           subst eo_
           refine value_ (w1 := w') (v := .agg #[.int .i64 96, .slice Ao5_0 y299.length co5_0]) (by rfl) rfl ?_ ?_
           ·go_simp
            (try simp only [i64_w])
            try rfl
           refine hK.out _ _ ⟨v297, .slice Ao5_0 y299.length co5_0, v303, v306, v309, v312, m3_, (.agg #[.int .i64 96, .slice Ao5_0 y299.length co5_0]), m7_, m9_, m11_, (by rw [ha.out]; exact putSel_upk 5 hb_ rfl rfl rfl), Q_HO_1, Q_HB, Q_HO298, Q_HO301, Q_HO304, Q_HO307, Q_HO310, fun h0_ => absurd ((hoff 13 (by kernel_rfl)).symm.trans h0_) (by decide), Q_X3_, fun _ => rfl, Q_X7_, Q_X9_, Q_X11_⟩
          refine steps_cons ?_ ?_
          ·rintro b a w' ⟨v297, v300, v303, v306, v309, v312, m3_, m5_, m7_, m9_, m11_, ha, Q_HO_1, Q_HB, Q_HO298, Q_HO301, Q_HO304, Q_HO307, Q_HO310, Q_HO313, Q_X3_, Q_X5_, Q_X7_, Q_X9_, Q_X11_⟩ hb_ hon hoff
           refine ⟨_, rfl, fun K hK => ?_⟩
           replace ha := Aside0.mk ha
           have HO_1 := Aside0.mk Q_HO_1
           have HB := Aside0.mk Q_HB
           refine Kd.R_make_step (Kd.int .u8) _ 5 (by rfl) (N := 65) rfl 24 _ _ rfl 4 rfl rfl Try.underlying24 (.int .u8 0) 1 info5 rfl (by decide) (by omega) 0 (ok := fun _ => True) (okp := fun _ => True) rfl (fun _ hk => hk) trivial (by omega) (by omega) (Below.refl _ _) (Nat.le_refl _) ?_
           intro v303 w29 ho30 hb hg_ hnew_
           clear hg_ hnew_
           (first | rw [← Ny302.out] at ho30 | (simp only [Int.reduceToNat] at ho30; rw [← Ny302.out] at ho30))
           have n0_ := Aside0.mk (Kd.R_below (mR HO_1.out) hb)
           have n1_ := Aside0.mk (Kd.R_lower ho30 (below_size (mB HB.out)))
           have n2_ := Aside0.mk (below_step (mB HB.out) hb)
           have z_HO298 := fun (h0_ : b 2 = true) (h1_ : b 13 = false) => (show Kd.R (Kd.int .u8) 5 w29 w.heap.size (fun _ => True) v297 y296 from by first | exact (Kd.R_elder' (by (with_reducible repeat (first | apply Kd.R_alloc | apply Kd.R_drewN | apply Kd.R_drew)); exact (Q_HO298 h0_ h1_)) (Kd.R_base ho30) hb) | exact Kd.R_mono (Kd.R_elder' (by (with_reducible repeat (first | apply Kd.R_alloc | apply Kd.R_drewN | apply Kd.R_drew)); exact (Q_HO298 h0_ h1_)) (Kd.R_base ho30) hb) (fun _ h_ => by first | trivial | exact h_ | exact h_.1))
           have z_HO301 := fun (h0_ : b 4 = true) (h1_ : b 13 = false) => (show Kd.R (Kd.int .u8) 5 w29 w.heap.size (fun _ => True) v300 y299 from by first | exact (Kd.R_elder' (by (with_reducible repeat (first | apply Kd.R_alloc | apply Kd.R_drewN | apply Kd.R_drew)); exact (Q_HO301 h0_ h1_)) (Kd.R_base ho30) hb) | exact Kd.R_mono (Kd.R_elder' (by (with_reducible repeat (first | apply Kd.R_alloc | apply Kd.R_drewN | apply Kd.R_drew)); exact (Q_HO301 h0_ h1_)) (Kd.R_base ho30) hb) (fun _ h_ => by first | trivial | exact h_ | exact h_.1))
           have z_HO307 := fun (h0_ : b 8 = true) (h1_ : b 13 = false) => (show Kd.R (Kd.int .u8) 5 w29 w.heap.size (fun _ => True) v306 y305 from by first | exact (Kd.R_elder' (by (with_reducible repeat (first | apply Kd.R_alloc | apply Kd.R_drewN | apply Kd.R_drew)); exact (Q_HO307 h0_ h1_)) (Kd.R_base ho30) hb) | exact Kd.R_mono (Kd.R_elder' (by (with_reducible repeat (first | apply Kd.R_alloc | apply Kd.R_drewN | apply Kd.R_drew)); exact (Q_HO307 h0_ h1_)) (Kd.R_base ho30) hb) (fun _ h_ => by first | trivial | exact h_ | exact h_.1))
           have z_HO310 := fun (h0_ : b 10 = true) (h1_ : b 13 = false) => (show Kd.R (Kd.int .u8) 5 w29 w.heap.size (fun _ => True) v309 y308 from by first | exact (Kd.R_elder' (by (with_reducible repeat (first | apply Kd.R_alloc | apply Kd.R_drewN | apply Kd.R_drew)); exact (Q_HO310 h0_ h1_)) (Kd.R_base ho30) hb) | exact Kd.R_mono (Kd.R_elder' (by (with_reducible repeat (first | apply Kd.R_alloc | apply Kd.R_drewN | apply Kd.R_drew)); exact (Q_HO310 h0_ h1_)) (Kd.R_base ho30) hb) (fun _ h_ => by first | trivial | exact h_ | exact h_.1))
           clear HO_1
           clear HB
           have HO_1 := n0_
           have HO304 := n1_
           have HB := n2_
           clear n0_ n1_ n2_
           clear hb ho30
           obtain ⟨Ao31, co31, eo31⟩ := Kd.R_slice HO304.out
           (first | subst eo31 | (injection eo31 with f1_ f2_ f3_; have f4_ := f1_.symm; have f5_ := f3_.symm; clear f1_ f2_ f3_; subst f4_; subst f5_))
           refine hK.out _ _ ⟨v297, v300, .slice Ao31 y302.length co31, v306, v309, v312, m3_, m5_, m7_, m9_, m11_, (by rw [ha.out]; exact putSel_upk 6 hb_ rfl rfl rfl), (mR HO_1.out), (mB HB.out), z_HO298, z_HO301, fun _ _ => (mR HO304.out), z_HO307, z_HO310, fun h0_ => absurd ((hoff 13 (by kernel_rfl)).symm.trans h0_) (by decide), Q_X3_, Q_X5_, fun h0_ => absurd ((hoff 7 (by kernel_rfl)).symm.trans h0_) (by decide), Q_X9_, Q_X11_⟩
          refine steps_cons ?_ ?_
          ·rintro b a w' ⟨v297, v300, v303, v306, v309, v312, m3_, m5_, m7_, m9_, m11_, ha, Q_HO_1, Q_HB, Q_HO298, Q_HO301, Q_HO304, Q_HO307, Q_HO310, Q_HO313, Q_X3_, Q_X5_, Q_X7_, Q_X9_, Q_X11_⟩ hb_ hon hoff
           refine ⟨_, rfl, fun K hK => ?_⟩
           have e65 : a.tmps[65]? = some (v303) := by rw [ha]; exact putSel_on (e := (6, 65, v303)) 6 rfl rfl (hon 6 (by kernel_rfl)) rfl
           replace ha := Aside0.mk ha
           have HO_1 := Aside0.mk Q_HO_1
           have HB := Aside0.mk Q_HB
           have HO304 := Aside0.mk (Q_HO304 (hon 6 (by kernel_rfl)) (hoff 13 (by kernel_rfl)))
           obtain ⟨Ao7_0, co7_0, eo_⟩ := Kd.R_slice HO304.out
           subst eo_
           refine value_ (w1 := w') (v := .agg #[.int .i64 32, .slice Ao7_0 y302.length co7_0]) (by rfl) rfl ?_ ?_
           ·go_simp
            (try simp only [i64_w])
            try rfl
           refine hK.out _ _ ⟨v297, v300, .slice Ao7_0 y302.length co7_0, v306, v309, v312, m3_, m5_, (.agg #[.int .i64 32, .slice Ao7_0 y302.length co7_0]), m9_, m11_, (by rw [ha.out]; exact putSel_upk 7 hb_ rfl rfl rfl), Q_HO_1, Q_HB, Q_HO298, Q_HO301, Q_HO304, Q_HO307, Q_HO310, fun h0_ => absurd ((hoff 13 (by kernel_rfl)).symm.trans h0_) (by decide), Q_X3_, Q_X5_, fun _ => rfl, Q_X9_, Q_X11_⟩
          refine steps_cons ?_ ?_
          ·rintro b a w' ⟨v297, v300, v303, v306, v309, v312, m3_, m5_, m7_, m9_, m11_, ha, Q_HO_1, Q_HB, Q_HO298, Q_HO301, Q_HO304, Q_HO307, Q_HO310, Q_HO313, Q_X3_, Q_X5_, Q_X7_, Q_X9_, Q_X11_⟩ hb_ hon hoff
           refine ⟨_, rfl, fun K hK => ?_⟩
           replace ha := Aside0.mk ha
           have HO_1 := Aside0.mk Q_HO_1
           have HB := Aside0.mk Q_HB
           refine Kd.R_make_step (Kd.int .u8) _ 5 (by rfl) (N := 67) rfl 24 _ _ rfl 8192 rfl rfl Try.underlying24 (.int .u8 0) 1 info5 rfl (by decide) (by omega) 0 (ok := fun _ => True) (okp := fun _ => True) rfl (fun _ hk => hk) trivial (by omega) (by omega) (Below.refl _ _) (Nat.le_refl _) ?_
           intro v306 w29 ho30 hb hg_ hnew_
           clear hg_ hnew_
           (first | rw [← Ny305.out] at ho30 | (simp only [Int.reduceToNat] at ho30; rw [← Ny305.out] at ho30))
           have n0_ := Aside0.mk (Kd.R_below (mR HO_1.out) hb)
           have n1_ := Aside0.mk (Kd.R_lower ho30 (below_size (mB HB.out)))
           have n2_ := Aside0.mk (below_step (mB HB.out) hb)
           have z_HO298 := fun (h0_ : b 2 = true) (h1_ : b 13 = false) => (show Kd.R (Kd.int .u8) 5 w29 w.heap.size (fun _ => True) v297 y296 from by first | exact (Kd.R_elder' (by (with_reducible repeat (first | apply Kd.R_alloc | apply Kd.R_drewN | apply Kd.R_drew)); exact (Q_HO298 h0_ h1_)) (Kd.R_base ho30) hb) | exact Kd.R_mono (Kd.R_elder' (by (with_reducible repeat (first | apply Kd.R_alloc | apply Kd.R_drewN | apply Kd.R_drew)); exact (Q_HO298 h0_ h1_)) (Kd.R_base ho30) hb) (fun _ h_ => by first | trivial | exact h_ | exact h_.1))
           have z_HO301 := fun (h0_ : b 4 = true) (h1_ : b 13 = false) => (show Kd.R (Kd.int .u8) 5 w29 w.heap.size (fun _ => True) v300 y299 from by first | exact (Kd.R_elder' (by (with_reducible repeat (first | apply Kd.R_alloc | apply Kd.R_drewN | apply Kd.R_drew)); exact (Q_HO301 h0_ h1_)) (Kd.R_base ho30) hb) | exact Kd.R_mono (Kd.R_elder' (by (with_reducible repeat (first | apply Kd.R_alloc | apply Kd.R_drewN | apply Kd.R_drew)); exact (Q_HO301 h0_ h1_)) (Kd.R_base ho30) hb) (fun _ h_ => by first | trivial | exact h_ | exact h_.1))
           have z_HO304 := fun (h0_ : b 6 = true) (h1_ : b 13 = false) => (show Kd.R (Kd.int .u8) 5 w29 w.heap.size (fun _ => True) v303 y302 from by first | exact (Kd.R_elder' (by (with_reducible repeat (first | apply Kd.R_alloc | apply Kd.R_drewN | apply Kd.R_drew)); exact (Q_HO304 h0_ h1_)) (Kd.R_base ho30) hb) | exact Kd.R_mono (Kd.R_elder' (by (with_reducible repeat (first | apply Kd.R_alloc | apply Kd.R_drewN | apply Kd.R_drew)); exact (Q_HO304 h0_ h1_)) (Kd.R_base ho30) hb) (fun _ h_ => by first | trivial | exact h_ | exact h_.1))
           have z_HO310 := fun (h0_ : b 10 = true) (h1_ : b 13 = false) => (show Kd.R (Kd.int .u8) 5 w29 w.heap.size (fun _ => True) v309 y308 from by first | exact (Kd.R_elder' (by (with_reducible repeat (first | apply Kd.R_alloc | apply Kd.R_drewN | apply Kd.R_drew)); exact (Q_HO310 h0_ h1_)) (Kd.R_base ho30) hb) | exact Kd.R_mono (Kd.R_elder' (by (with_reducible repeat (first | apply Kd.R_alloc | apply Kd.R_drewN | apply Kd.R_drew)); exact (Q_HO310 h0_ h1_)) (Kd.R_base ho30) hb) (fun _ h_ => by first | trivial | exact h_ | exact h_.1))
           clear HO_1
           clear HB
           have HO_1 := n0_
           have HO307 := n1_
           have HB := n2_
           clear n0_ n1_ n2_
           clear hb ho30
           obtain ⟨Ao31, co31, eo31⟩ := Kd.R_slice HO307.out
           (first | subst eo31 | (injection eo31 with f1_ f2_ f3_; have f4_ := f1_.symm; have f5_ := f3_.symm; clear f1_ f2_ f3_; subst f4_; subst f5_))
           refine hK.out _ _ ⟨v297, v300, v303, .slice Ao31 y305.length co31, v309, v312, m3_, m5_, m7_, m9_, m11_, (by rw [ha.out]; exact putSel_upk 8 hb_ rfl rfl rfl), (mR HO_1.out), (mB HB.out), z_HO298, z_HO301, z_HO304, fun _ _ => (mR HO307.out), z_HO310, fun h0_ => absurd ((hoff 13 (by kernel_rfl)).symm.trans h0_) (by decide), Q_X3_, Q_X5_, Q_X7_, fun h0_ => absurd ((hoff 9 (by kernel_rfl)).symm.trans h0_) (by decide), Q_X11_⟩
          refine steps_cons ?_ ?_
          ·rintro b a w' ⟨v297, v300, v303, v306, v309, v312, m3_, m5_, m7_, m9_, m11_, ha, Q_HO_1, Q_HB, Q_HO298, Q_HO301, Q_HO304, Q_HO307, Q_HO310, Q_HO313, Q_X3_, Q_X5_, Q_X7_, Q_X9_, Q_X11_⟩ hb_ hon hoff
           refine ⟨_, rfl, fun K hK => ?_⟩
           have e67 : a.tmps[67]? = some (v306) := by rw [ha]; exact putSel_on (e := (8, 67, v306)) 8 rfl rfl (hon 8 (by kernel_rfl)) rfl
           replace ha := Aside0.mk ha
           have HO_1 := Aside0.mk Q_HO_1
           have HB := Aside0.mk Q_HB
           have HO307 := Aside0.mk (Q_HO307 (hon 8 (by kernel_rfl)) (hoff 13 (by kernel_rfl)))
           obtain ⟨Ao9_0, co9_0, eo_⟩ := Kd.R_slice HO307.out
           subst eo_
           refine value_ (w1 := w') (v := .agg #[.int .i64 65536, .slice Ao9_0 y305.length co9_0]) (by rfl) rfl ?_ ?_
           ·go_simp
            (try simp only [i64_w])
            try rfl
           refine hK.out _ _ ⟨v297, v300, v303, .slice Ao9_0 y305.length co9_0, v309, v312, m3_, m5_, m7_, (.agg #[.int .i64 65536, .slice Ao9_0 y305.length co9_0]), m11_, (by rw [ha.out]; exact putSel_upk 9 hb_ rfl rfl rfl), Q_HO_1, Q_HB, Q_HO298, Q_HO301, Q_HO304, Q_HO307, Q_HO310, fun h0_ => absurd ((hoff 13 (by kernel_rfl)).symm.trans h0_) (by decide), Q_X3_, Q_X5_, Q_X7_, fun _ => rfl, Q_X11_⟩
          refine steps_cons ?_ ?_
          ·rintro b a w' ⟨v297, v300, v303, v306, v309, v312, m3_, m5_, m7_, m9_, m11_, ha, Q_HO_1, Q_HB, Q_HO298, Q_HO301, Q_HO304, Q_HO307, Q_HO310, Q_HO313, Q_X3_, Q_X5_, Q_X7_, Q_X9_, Q_X11_⟩ hb_ hon hoff
           refine ⟨_, rfl, fun K hK => ?_⟩
           replace ha := Aside0.mk ha
           have HO_1 := Aside0.mk Q_HO_1
           have HB := Aside0.mk Q_HB
           refine Kd.R_make_step (Kd.int .u8) _ 5 (by rfl) (N := 69) rfl 24 _ _ rfl 16384 rfl rfl Try.underlying24 (.int .u8 0) 1 info5 rfl (by decide) (by omega) 0 (ok := fun _ => True) (okp := fun _ => True) rfl (fun _ hk => hk) trivial (by omega) (by omega) (Below.refl _ _) (Nat.le_refl _) ?_
           intro v309 w29 ho30 hb hg_ hnew_
           clear hg_ hnew_
           (first | rw [← Ny308.out] at ho30 | (simp only [Int.reduceToNat] at ho30; rw [← Ny308.out] at ho30))
           have n0_ := Aside0.mk (Kd.R_below (mR HO_1.out) hb)
           have n1_ := Aside0.mk (Kd.R_lower ho30 (below_size (mB HB.out)))
           have n2_ := Aside0.mk (below_step (mB HB.out) hb)
           have z_HO298 := fun (h0_ : b 2 = true) (h1_ : b 13 = false) => (show Kd.R (Kd.int .u8) 5 w29 w.heap.size (fun _ => True) v297 y296 from by first | exact (Kd.R_elder' (by (with_reducible repeat (first | apply Kd.R_alloc | apply Kd.R_drewN | apply Kd.R_drew)); exact (Q_HO298 h0_ h1_)) (Kd.R_base ho30) hb) | exact Kd.R_mono (Kd.R_elder' (by (with_reducible repeat (first | apply Kd.R_alloc | apply Kd.R_drewN | apply Kd.R_drew)); exact (Q_HO298 h0_ h1_)) (Kd.R_base ho30) hb) (fun _ h_ => by first | trivial | exact h_ | exact h_.1))
           have z_HO301 := fun (h0_ : b 4 = true) (h1_ : b 13 = false) => (show Kd.R (Kd.int .u8) 5 w29 w.heap.size (fun _ => True) v300 y299 from by first | exact (Kd.R_elder' (by (with_reducible repeat (first | apply Kd.R_alloc | apply Kd.R_drewN | apply Kd.R_drew)); exact (Q_HO301 h0_ h1_)) (Kd.R_base ho30) hb) | exact Kd.R_mono (Kd.R_elder' (by (with_reducible repeat (first | apply Kd.R_alloc | apply Kd.R_drewN | apply Kd.R_drew)); exact (Q_HO301 h0_ h1_)) (Kd.R_base ho30) hb) (fun _ h_ => by first | trivial | exact h_ | exact h_.1))
           have z_HO304 := fun (h0_ : b 6 = true) (h1_ : b 13 = false) => (show Kd.R (Kd.int .u8) 5 w29 w.heap.size (fun _ => True) v303 y302 from by first | exact (Kd.R_elder' (by (with_reducible repeat (first | apply Kd.R_alloc | apply Kd.R_drewN | apply Kd.R_drew)); exact (Q_HO304 h0_ h1_)) (Kd.R_base ho30) hb) | exact Kd.R_mono (Kd.R_elder' (by (with_reducible repeat (first | apply Kd.R_alloc | apply Kd.R_drewN | apply Kd.R_drew)); exact (Q_HO304 h0_ h1_)) (Kd.R_base ho30) hb) (fun _ h_ => by first | trivial | exact h_ | exact h_.1))
           have z_HO307 := fun (h0_ : b 8 = true) (h1_ : b 13 = false) => (show Kd.R (Kd.int .u8) 5 w29 w.heap.size (fun _ => True) v306 y305 from by first | exact (Kd.R_elder' (by (with_reducible repeat (first | apply Kd.R_alloc | apply Kd.R_drewN | apply Kd.R_drew)); exact (Q_HO307 h0_ h1_)) (Kd.R_base ho30) hb) | exact Kd.R_mono (Kd.R_elder' (by (with_reducible repeat (first | apply Kd.R_alloc | apply Kd.R_drewN | apply Kd.R_drew)); exact (Q_HO307 h0_ h1_)) (Kd.R_base ho30) hb) (fun _ h_ => by first | trivial | exact h_ | exact h_.1))
           clear HO_1
           clear HB
           have HO_1 := n0_
           have HO310 := n1_
           have HB := n2_
           clear n0_ n1_ n2_
           clear hb ho30
           obtain ⟨Ao31, co31, eo31⟩ := Kd.R_slice HO310.out
           (first | subst eo31 | (injection eo31 with f1_ f2_ f3_; have f4_ := f1_.symm; have f5_ := f3_.symm; clear f1_ f2_ f3_; subst f4_; subst f5_))
           refine hK.out _ _ ⟨v297, v300, v303, v306, .slice Ao31 y308.length co31, v312, m3_, m5_, m7_, m9_, m11_, (by rw [ha.out]; exact putSel_upk 10 hb_ rfl rfl rfl), (mR HO_1.out), (mB HB.out), z_HO298, z_HO301, z_HO304, z_HO307, fun _ _ => (mR HO310.out), fun h0_ => absurd ((hoff 13 (by kernel_rfl)).symm.trans h0_) (by decide), Q_X3_, Q_X5_, Q_X7_, Q_X9_, fun h0_ => absurd ((hoff 11 (by kernel_rfl)).symm.trans h0_) (by decide)⟩
          refine steps_cons ?_ ?_
          ·rintro b a w' ⟨v297, v300, v303, v306, v309, v312, m3_, m5_, m7_, m9_, m11_, ha, Q_HO_1, Q_HB, Q_HO298, Q_HO301, Q_HO304, Q_HO307, Q_HO310, Q_HO313, Q_X3_, Q_X5_, Q_X7_, Q_X9_, Q_X11_⟩ hb_ hon hoff
           refine ⟨_, rfl, fun K hK => ?_⟩
           have e69 : a.tmps[69]? = some (v309) := by rw [ha]; exact putSel_on (e := (10, 69, v309)) 10 rfl rfl (hon 10 (by kernel_rfl)) rfl
           replace ha := Aside0.mk ha
           have HO_1 := Aside0.mk Q_HO_1
           have HB := Aside0.mk Q_HB
           have HO310 := Aside0.mk (Q_HO310 (hon 10 (by kernel_rfl)) (hoff 13 (by kernel_rfl)))
           obtain ⟨Ao11_0, co11_0, eo_⟩ := Kd.R_slice HO310.out
           subst eo_
           refine value_ (w1 := w') (v := .agg #[.int .i64 131072, .slice Ao11_0 y308.length co11_0]) (by rfl) rfl ?_ ?_
           ·go_simp
            (try simp only [i64_w])
            try rfl
           refine hK.out _ _ ⟨v297, v300, v303, v306, .slice Ao11_0 y308.length co11_0, v312, m3_, m5_, m7_, m9_, (.agg #[.int .i64 131072, .slice Ao11_0 y308.length co11_0]), (by rw [ha.out]; exact putSel_upk 11 hb_ rfl rfl rfl), Q_HO_1, Q_HB, Q_HO298, Q_HO301, Q_HO304, Q_HO307, Q_HO310, fun h0_ => absurd ((hoff 13 (by kernel_rfl)).symm.trans h0_) (by decide), Q_X3_, Q_X5_, Q_X7_, Q_X9_, fun _ => rfl⟩
          refine steps_cons ?_ ?_
          ·rintro b a w' ⟨v297, v300, v303, v306, v309, v312, m3_, m5_, m7_, m9_, m11_, ha, Q_HO_1, Q_HB, Q_HO298, Q_HO301, Q_HO304, Q_HO307, Q_HO310, Q_HO313, Q_X3_, Q_X5_, Q_X7_, Q_X9_, Q_X11_⟩ hb_ hon hoff
           refine ⟨_, rfl, fun K hK => ?_⟩
           replace ha := Aside0.mk ha
           have HO_1 := Aside0.mk Q_HO_1
           have HB := Aside0.mk Q_HB
           refine value_ (w1 := w') (v := .agg #[.int .i64 (-64), .slice none 0 0]) (by rfl) rfl ?_ ?_
           ·go_simp
            (try simp only [i64_w])
            try rfl
           refine hK.out _ _ ⟨v297, v300, v303, v306, v309, v312, m3_, m5_, m7_, m9_, m11_, (by rw [ha.out]; exact putSel_upk 12 hb_ rfl rfl rfl), Q_HO_1, Q_HB, Q_HO298, Q_HO301, Q_HO304, Q_HO307, Q_HO310, fun h0_ => absurd ((hoff 13 (by kernel_rfl)).symm.trans h0_) (by decide), Q_X3_, Q_X5_, Q_X7_, Q_X9_, Q_X11_⟩
          refine steps_cons ?_ ?_
          ·rintro b a w' ⟨v297, v300, v303, v306, v309, v312, m3_, m5_, m7_, m9_, m11_, ha, Q_HO_1, Q_HB, Q_HO298, Q_HO301, Q_HO304, Q_HO307, Q_HO310, Q_HO313, Q_X3_, Q_X5_, Q_X7_, Q_X9_, Q_X11_⟩ hb_ hon hoff
           refine ⟨_, rfl, fun K hK => ?_⟩
           have e59 : a.tmps[59]? = some (.agg #[.int .i64 0, .slice none 0 0]) := by rw [ha]; exact putSel_on (e := (0, 59, .agg #[.int .i64 0, .slice none 0 0])) 0 rfl rfl (hon 0 (by kernel_rfl)) rfl
           have e60 : a.tmps[60]? = some (.agg #[.int .i64 64, .slice none 0 0]) := by rw [ha]; exact putSel_on (e := (1, 60, .agg #[.int .i64 64, .slice none 0 0])) 1 rfl rfl (hon 1 (by kernel_rfl)) rfl
           have e62 : a.tmps[62]? = some (m3_) := by rw [ha]; exact putSel_on (e := (3, 62, m3_)) 3 rfl rfl (hon 3 (by kernel_rfl)) rfl
           rw [Q_X3_ (hon 3 (by kernel_rfl))] at e62
           have e64 : a.tmps[64]? = some (m5_) := by rw [ha]; exact putSel_on (e := (5, 64, m5_)) 5 rfl rfl (hon 5 (by kernel_rfl)) rfl
           rw [Q_X5_ (hon 5 (by kernel_rfl))] at e64
           have e66 : a.tmps[66]? = some (m7_) := by rw [ha]; exact putSel_on (e := (7, 66, m7_)) 7 rfl rfl (hon 7 (by kernel_rfl)) rfl
           rw [Q_X7_ (hon 7 (by kernel_rfl))] at e66
           have e68 : a.tmps[68]? = some (m9_) := by rw [ha]; exact putSel_on (e := (9, 68, m9_)) 9 rfl rfl (hon 9 (by kernel_rfl)) rfl
           rw [Q_X9_ (hon 9 (by kernel_rfl))] at e68
           have e70 : a.tmps[70]? = some (m11_) := by rw [ha]; exact putSel_on (e := (11, 70, m11_)) 11 rfl rfl (hon 11 (by kernel_rfl)) rfl
           rw [Q_X11_ (hon 11 (by kernel_rfl))] at e70
           have e71 : a.tmps[71]? = some (.agg #[.int .i64 (-64), .slice none 0 0]) := by rw [ha]; exact putSel_on (e := (12, 71, .agg #[.int .i64 (-64), .slice none 0 0])) 12 rfl rfl (hon 12 (by kernel_rfl)) rfl
           replace ha := Aside0.mk ha
           have HO_1 := Aside0.mk Q_HO_1
           have HB := Aside0.mk Q_HB
           have HO298 := Aside0.mk (Q_HO298 (hon 2 (by kernel_rfl)) hb_)
           have HO301 := Aside0.mk (Q_HO301 (hon 4 (by kernel_rfl)) hb_)
           have HO304 := Aside0.mk (Q_HO304 (hon 6 (by kernel_rfl)) hb_)
           have HO307 := Aside0.mk (Q_HO307 (hon 8 (by kernel_rfl)) hb_)
           have HO310 := Aside0.mk (Q_HO310 (hon 10 (by kernel_rfl)) hb_)
           obtain ⟨Ao45, co45, eo45⟩ := Kd.R_slice HO298.out
           (first | subst eo45 | (injection eo45 with f1_ f2_ f3_; have f4_ := f1_.symm; have f5_ := f3_.symm; clear f1_ f2_ f3_; subst f4_; subst f5_))
           obtain ⟨Ao46, co46, eo46⟩ := Kd.R_slice HO301.out
           (first | subst eo46 | (injection eo46 with f1_ f2_ f3_; have f4_ := f1_.symm; have f5_ := f3_.symm; clear f1_ f2_ f3_; subst f4_; subst f5_))
           obtain ⟨Ao47, co47, eo47⟩ := Kd.R_slice HO304.out
           (first | subst eo47 | (injection eo47 with f1_ f2_ f3_; have f4_ := f1_.symm; have f5_ := f3_.symm; clear f1_ f2_ f3_; subst f4_; subst f5_))
           obtain ⟨Ao48, co48, eo48⟩ := Kd.R_slice HO307.out
           (first | subst eo48 | (injection eo48 with f1_ f2_ f3_; have f4_ := f1_.symm; have f5_ := f3_.symm; clear f1_ f2_ f3_; subst f4_; subst f5_))
           obtain ⟨Ao49, co49, eo49⟩ := Kd.R_slice HO310.out
           (first | subst eo49 | (injection eo49 with f1_ f2_ f3_; have f4_ := f1_.symm; have f5_ := f3_.symm; clear f1_ f2_ f3_; subst f4_; subst f5_))
           refine Kd.N_lit_step k26 _ 26 ?hg (N' := 72) ?hd (xs := ([(⟨0, ([] : List Int)⟩ : S26), (⟨64, ([] : List Int)⟩ : S26), (⟨64, y296⟩ : S26), (⟨96, y299⟩ : S26), (⟨32, y302⟩ : S26), (⟨65536, y305⟩ : S26), (⟨131072, y308⟩ : S26), (⟨(-64), ([] : List Int)⟩ : S26)] : List (S26))) (inner := [.int .i64 0, .slice none 0 0, .int .i64 64, .slice none 0 0, .int .i64 64, .slice Ao45 y296.length co45, .int .i64 96, .slice Ao46 y299.length co46, .int .i64 32, .slice Ao47 y302.length co47, .int .i64 65536, .slice Ao48 y305.length co48, .int .i64 131072, .slice Ao49 y308.length co49, .int .i64 (-64), .slice none 0 0]) (ok := (fun k_ => some k_ ≠ (u1 : Value).ownBlock)) (okp := (fun k_ => some k_ ≠ (u1 : Value).ownBlock)) ?hr ?hp (fun _ hk => hk) ((show ∀ k_, w'.heap.size ≤ k_ → (fun k_ => some k_ ≠ (u1 : Value).ownBlock) k_ from fun k_ hk => Kd.fresh' (Kd.R_lt (mR HO_1.out)) k_ hk) _ (Nat.le_refl _)) (Below.refl _ _) (Nat.le_refl _) (by simp) ?_; (case hd => rfl); (case hg => rfl); (case hr => first | (go_simp; done) | (go_simp; rfl)); (case hp => exact (Reps.c2 (show Kd.FK k26 _ _ (⟨0, ([] : List Int)⟩ : S26) [.int .i64 0, .slice none 0 0] from (k26_mkF _ _ (⟨0, ([] : List Int)⟩ : S26) (Nat.le_refl _) (Kd.F_nil _ _ _))) (Reps.c2 (show Kd.FK k26 _ _ (⟨64, ([] : List Int)⟩ : S26) [.int .i64 64, .slice none 0 0] from (k26_mkF _ _ (⟨64, ([] : List Int)⟩ : S26) (Nat.le_refl _) (Kd.F_nil _ _ _))) (Reps.c2 (show Kd.FK k26 _ _ (⟨64, y296⟩ : S26) [.int .i64 64, .slice Ao45 y296.length co45] from (k26_mkF _ _ (⟨64, y296⟩ : S26) (Kd.R_reads' (Kd.R_mono (ok' := (fun k_ => some k_ ≠ (u1 : Value).ownBlock)) (Kd.R_apart' (HO298.out) (Kd.R_typed HO_1.out) (by decide)) (fun k_ hk => hk.2))).2.1 (Kd.R_F (by (with_reducible repeat (first | apply Kd.R_alloc | apply Kd.R_drewN | apply Kd.R_drew)); exact (Kd.R_mono (ok' := (fun k_ => some k_ ≠ (u1 : Value).ownBlock)) (Kd.R_apart' (HO298.out) (Kd.R_typed HO_1.out) (by decide)) (fun k_ hk => hk.2)))))) (Reps.c2 (show Kd.FK k26 _ _ (⟨96, y299⟩ : S26) [.int .i64 96, .slice Ao46 y299.length co46] from (k26_mkF _ _ (⟨96, y299⟩ : S26) (Kd.R_reads' (Kd.R_mono (ok' := (fun k_ => some k_ ≠ (u1 : Value).ownBlock)) (Kd.R_apart' (HO301.out) (Kd.R_typed HO_1.out) (by decide)) (fun k_ hk => hk.2))).2.1 (Kd.R_F (by (with_reducible repeat (first | apply Kd.R_alloc | apply Kd.R_drewN | apply Kd.R_drew)); exact (Kd.R_mono (ok' := (fun k_ => some k_ ≠ (u1 : Value).ownBlock)) (Kd.R_apart' (HO301.out) (Kd.R_typed HO_1.out) (by decide)) (fun k_ hk => hk.2)))))) (Reps.c2 (show Kd.FK k26 _ _ (⟨32, y302⟩ : S26) [.int .i64 32, .slice Ao47 y302.length co47] from (k26_mkF _ _ (⟨32, y302⟩ : S26) (Kd.R_reads' (Kd.R_mono (ok' := (fun k_ => some k_ ≠ (u1 : Value).ownBlock)) (Kd.R_apart' (HO304.out) (Kd.R_typed HO_1.out) (by decide)) (fun k_ hk => hk.2))).2.1 (Kd.R_F (by (with_reducible repeat (first | apply Kd.R_alloc | apply Kd.R_drewN | apply Kd.R_drew)); exact (Kd.R_mono (ok' := (fun k_ => some k_ ≠ (u1 : Value).ownBlock)) (Kd.R_apart' (HO304.out) (Kd.R_typed HO_1.out) (by decide)) (fun k_ hk => hk.2)))))) (Reps.c2 (show Kd.FK k26 _ _ (⟨65536, y305⟩ : S26) [.int .i64 65536, .slice Ao48 y305.length co48] from (k26_mkF _ _ (⟨65536, y305⟩ : S26) (Kd.R_reads' (Kd.R_mono (ok' := (fun k_ => some k_ ≠ (u1 : Value).ownBlock)) (Kd.R_apart' (HO307.out) (Kd.R_typed HO_1.out) (by decide)) (fun k_ hk => hk.2))).2.1 (Kd.R_F (by (with_reducible repeat (first | apply Kd.R_alloc | apply Kd.R_drewN | apply Kd.R_drew)); exact (Kd.R_mono (ok' := (fun k_ => some k_ ≠ (u1 : Value).ownBlock)) (Kd.R_apart' (HO307.out) (Kd.R_typed HO_1.out) (by decide)) (fun k_ hk => hk.2)))))) (Reps.c2 (show Kd.FK k26 _ _ (⟨131072, y308⟩ : S26) [.int .i64 131072, .slice Ao49 y308.length co49] from (k26_mkF _ _ (⟨131072, y308⟩ : S26) (Kd.R_reads' (Kd.R_mono (ok' := (fun k_ => some k_ ≠ (u1 : Value).ownBlock)) (Kd.R_apart' (HO310.out) (Kd.R_typed HO_1.out) (by decide)) (fun k_ hk => hk.2))).2.1 (Kd.R_F (by (with_reducible repeat (first | apply Kd.R_alloc | apply Kd.R_drewN | apply Kd.R_drew)); exact (Kd.R_mono (ok' := (fun k_ => some k_ ≠ (u1 : Value).ownBlock)) (Kd.R_apart' (HO310.out) (Kd.R_typed HO_1.out) (by decide)) (fun k_ hk => hk.2)))))) (Reps.c2 (show Kd.FK k26 _ _ (⟨(-64), ([] : List Int)⟩ : S26) [.int .i64 (-64), .slice none 0 0] from (k26_mkF _ _ (⟨(-64), ([] : List Int)⟩ : S26) (Nat.le_refl _) (Kd.F_nil _ _ _))) (Reps.none _ _))))))))))
           intro v312 w50 ho51 hb hg_ hnew_
           clear hg_ hnew_
           (first | rw [← Ny311.out] at ho51 | (simp only [Int.reduceToNat] at ho51; rw [← Ny311.out] at ho51))
           have n0_ := Aside0.mk (Kd.R_below (mR HO_1.out) hb)
           have n1_ := Aside0.mk (Kd.N_lower ho51 (below_size (mB HB.out)))
           have n2_ := Aside0.mk (below_step (mB HB.out) hb)
           clear HO_1
           clear HB
           clear HO298
           clear HO301
           clear HO304
           clear HO307
           clear HO310
           have HO_1 := n0_
           have HO313 := n1_
           have HB := n2_
           clear n0_ n1_ n2_
           clear hb ho51
           obtain ⟨Ao52, co52, eo52⟩ := Kd.N_slice HO313.out
           (first | subst eo52 | (injection eo52 with f1_ f2_ f3_; have f4_ := f1_.symm; have f5_ := f3_.symm; clear f1_ f2_ f3_; subst f4_; subst f5_))
           refine hK.out _ _ ⟨.slice Ao45 y296.length co45, .slice Ao46 y299.length co46, .slice Ao47 y302.length co47, .slice Ao48 y305.length co48, .slice Ao49 y308.length co49, .slice Ao52 y311.length co52, m3_, m5_, m7_, m9_, m11_, (by rw [ha.out]; exact putSel_upk 13 hb_ rfl rfl rfl), (mR HO_1.out), (mB HB.out), fun _ h1_ => absurd ((up_self b 13).symm.trans h1_) (by decide), fun _ h1_ => absurd ((up_self b 13).symm.trans h1_) (by decide), fun _ h1_ => absurd ((up_self b 13).symm.trans h1_) (by decide), fun _ h1_ => absurd ((up_self b 13).symm.trans h1_) (by decide), fun _ h1_ => absurd ((up_self b 13).symm.trans h1_) (by decide), fun _ => (mN HO313.out), Q_X3_, Q_X5_, Q_X7_, Q_X9_, Q_X11_⟩
          refine steps_cons ?_ ?_
          ·rintro b a w' ⟨v297, v300, v303, v306, v309, v312, m3_, m5_, m7_, m9_, m11_, ha, Q_HO_1, Q_HB, Q_HO298, Q_HO301, Q_HO304, Q_HO307, Q_HO310, Q_HO313, Q_X3_, Q_X5_, Q_X7_, Q_X9_, Q_X11_⟩ hb_ hon hoff
           refine ⟨_, rfl, fun K hK => ?_⟩
           have e72 : a.tmps[72]? = some (v312) := by rw [ha]; exact putSel_on (e := (13, 72, v312)) 13 rfl rfl (hon 13 (by kernel_rfl)) rfl
           replace ha := Aside0.mk ha
           have HO_1 := Aside0.mk Q_HO_1
           have HB := Aside0.mk Q_HB
           have HO313 := Aside0.mk (Q_HO313 (hon 13 (by kernel_rfl)))
           obtain ⟨Ao14_0, co14_0, eo_⟩ := Kd.N_slice HO313.out
           subst eo_
           refine value_ (w1 := w') (v := .int .i64 (y311.length : Int)) (by rfl) rfl ?_ ?_
           ·go_simp
            (try simp only [i64_w])
            try rfl
           refine hK.out _ _ ⟨v297, v300, v303, v306, v309, .slice Ao14_0 y311.length co14_0, m3_, m5_, m7_, m9_, m11_, (by rw [ha.out]; exact putSel_upk 14 hb_ rfl rfl rfl), Q_HO_1, Q_HB, fun _ h1_ => absurd ((hon 13 (by kernel_rfl)).symm.trans h1_) (by decide), fun _ h1_ => absurd ((hon 13 (by kernel_rfl)).symm.trans h1_) (by decide), fun _ h1_ => absurd ((hon 13 (by kernel_rfl)).symm.trans h1_) (by decide), fun _ h1_ => absurd ((hon 13 (by kernel_rfl)).symm.trans h1_) (by decide), fun _ h1_ => absurd ((hon 13 (by kernel_rfl)).symm.trans h1_) (by decide), Q_HO313, Q_X3_, Q_X5_, Q_X7_, Q_X9_, Q_X11_⟩
          exact steps_nil
         rintro b a w47 hall ⟨v297, v300, v303, v306, v309, v312, m3_, m5_, m7_, m9_, m11_, ha, Q_HO_1, Q_HB, Q_HO298, Q_HO301, Q_HO304, Q_HO307, Q_HO310, Q_HO313, Q_X3_, Q_X5_, Q_X7_, Q_X9_, Q_X11_⟩
         clear HB HO_1
         have hb0_ := hall 0 (by kernel_rfl)
         have hb1_ := hall 1 (by kernel_rfl)
         have hb2_ := hall 2 (by kernel_rfl)
         have hb3_ := hall 3 (by kernel_rfl)
         have hb4_ := hall 4 (by kernel_rfl)
         have hb5_ := hall 5 (by kernel_rfl)
         have hb6_ := hall 6 (by kernel_rfl)
         have hb7_ := hall 7 (by kernel_rfl)
         have hb8_ := hall 8 (by kernel_rfl)
         have hb9_ := hall 9 (by kernel_rfl)
         have hb10_ := hall 10 (by kernel_rfl)
         have hb11_ := hall 11 (by kernel_rfl)
         have hb12_ := hall 12 (by kernel_rfl)
         have hb13_ := hall 13 (by kernel_rfl)
         have hb14_ := hall 14 (by kernel_rfl)
         subst ha
         obtain rfl := Q_X3_ hb3_
         obtain rfl := Q_X5_ hb5_
         obtain rfl := Q_X7_ hb7_
         obtain rfl := Q_X9_ hb9_
         obtain rfl := Q_X11_ hb11_
         simp only [putSel, hb0_, hb1_, hb2_, hb3_, hb4_, hb5_, hb6_, hb7_, hb8_, hb9_, hb10_, hb11_, hb12_, hb13_, hb14_, if_true, Act.put, List.setIfInBounds_toArray, List.set_cons_zero, List.set_cons_succ]
         have HO_1 := Aside0.mk Q_HO_1
         clear Q_HO_1
         have HB := Aside0.mk Q_HB
         clear Q_HB
         clear Q_HO298
         clear Q_HO301
         clear Q_HO304
         clear Q_HO307
         clear Q_HO310
         have HO313 := Aside0.mk (Q_HO313 hb13_)
         clear Q_HO313
         clear hall hb0_ hb1_ hb2_ hb3_ hb4_ hb5_ hb6_ hb7_ hb8_ hb9_ hb10_ hb11_ hb12_ hb13_ hb14_
         obtain ⟨Ao48, co48, eo48⟩ := Kd.N_slice HO313.out
         (first | subst eo48 | (injection eo48 with f1_ f2_ f3_; have f4_ := f1_.symm; have f5_ := f3_.symm; clear f1_ f2_ f3_; subst f4_; subst f5_))
         try go_wp2
         go_loopg [74] k1 (fun kq v74 w' => ∃ (x74_2 : Int), v74 = .int .i64 x74_2 ∧ Aside0 (columbariumlaw9_BloomNumbers.l1 kq y311 (y311.length : Int) x74_2 = some r) ∧ Aside0 (kq ≤ k1) ∧ Aside0 (Kd.N k26 26 w' w.heap.size (fun _ => True) (.slice Ao48 y311.length co48) y311) ∧ Aside0 (Below w.heap.size w w'))
         case atStart => exact ⟨(0), (by first | rfl | (simp; done) | (simp [*]; done)), H', ⟨Nat.le_refl _⟩, ⟨by (with_reducible repeat (first | apply Kd.N_alloc | apply Kd.N_drewN | apply Kd.N_drew)); exact Kd.N_mono HO313.out (fun _ hk => trivial)⟩, ⟨mB HB.out⟩⟩
         case round =>
          clear H'
          try clear c1
          try clear c1b0
          try clear c2
          try clear c2b0
          try clear c2b1
          try clear c2b2
          try clear p2
          try clear hcv2
          try clear c3
          try clear c3b0
          try clear c3b1
          try clear c3b2
          try clear p3
          try clear c4
          try clear c6
          try clear p6
          try clear c7
          try clear c7b0
          try clear c7b1
          try clear c8
          try clear c8b0
          try clear c8b1
          try clear c10
          try clear c15
          try clear c17
          try clear hcv21
          try clear hcv22
          try clear c23
          try clear c23b0
          try clear c23b1
          try clear c24
          try clear c24b0
          try clear c24b1
          try clear c25
          try clear c25b0
          try clear c25b1
          try clear c26
          try clear c26b0
          try clear c26b1
          try clear c27
          try clear c27b0
          try clear c27b1
          try clear p32
          try clear hcz13_0
          try clear hcz13_1
          try clear hcz18_0
          try clear hcz18_1
          try clear hcz20_0
          try clear hcz20_1
          try clear hfz13_0
          try clear hfz13_1
          try clear hfz18_0
          try clear hfz18_1
          try clear hfz20_0
          try clear hfz20_1
          obtain ⟨x74_2, rfl, HA, HK2, HO_72, HB⟩ := hrel
          cases gk with
          | zero => exact absurd HA.out (by simp [columbariumlaw9_BloomNumbers.l1])
          | succ k2 =>
           have H := HA.out
           clear HA
           simp only [columbariumlaw9_BloomNumbers.l1] at H
           by_cases c49 : x74_2 < (y311.length : Int)
           ·rw [if_pos c49] at H
            have c49b0 : decide (x74_2 < (y311.length : Int)) = true := decide_eq_true c49
            clear c49
            by_cases c50 : 0 ≤ x74_2
            ·rw [if_pos c50] at H
             have c50b0 : decide (0 ≤ x74_2) = true := decide_eq_true c50
             clear c50
             by_cases c51 : x74_2 < (y311.length : Int)
             ·rw [if_pos c51] at H
              have c51b0 : decide (x74_2 < (y311.length : Int)) = true := decide_eq_true c51
              clear c51
              replace H := Option.bind_eq_some_iff.mp H
              obtain ⟨⟨t316, t319⟩, A520, H⟩ := H
              replace H : ((columbariumlaw9_in.f ((rd_T26 y311 x74_2).f0) ((rd_T26 y311 x74_2).f1)).bind fun bt320 => ((columbariumref9_Encode.f k2 bt320.1 bt320.2).bind fun bt324 => ((bloom_Right.f ((rd_T26 y311 x74_2).f0) ((rd_T26 y311 x74_2).f1)).bind fun t328 => ((columbariumlaw9_in.f ((rd_T26 y311 x74_2).f0) ((rd_T26 y311 x74_2).f1)).bind fun bt329 => ((columbariumref9_Right.f k2 bt329.1 bt329.2).bind fun t333 => (if (t328 != t333) = true then (some false) else (if (strOfNums t316).toList = (strOfNums bt324.1).toList then (if t319 = bt324.2 then ((bloom_May.f k2 ((rd_T26 y311 x74_2).f0) ((rd_T26 y311 x74_2).f1) (⟨#[120]⟩ : ByteArray)).bind fun t334 => ((columbariumlaw9_in.f ((rd_T26 y311 x74_2).f0) ((rd_T26 y311 x74_2).f1)).bind fun bt335 => ((columbariumref9_May.f k2 bt335.1 bt335.2 (⟨#[120]⟩ : ByteArray)).bind fun t339 => (if (t334 != t339) = true then (some false) else (columbariumlaw9_BloomNumbers.l1 k2 y311 (y311.length : Int) (wrap64 (x74_2 + 1))))))) else (some false)) else (some false)))))))) = some r := H
              have A52 := Aside0.mk A520
              clear A520
              replace H := Option.bind_eq_some_iff.mp H
              obtain ⟨⟨t320, t321⟩, A530, H⟩ := H
              replace H : ((columbariumref9_Encode.f k2 t320 t321).bind fun bt324 => ((bloom_Right.f ((rd_T26 y311 x74_2).f0) ((rd_T26 y311 x74_2).f1)).bind fun t328 => ((columbariumlaw9_in.f ((rd_T26 y311 x74_2).f0) ((rd_T26 y311 x74_2).f1)).bind fun bt329 => ((columbariumref9_Right.f k2 bt329.1 bt329.2).bind fun t333 => (if (t328 != t333) = true then (some false) else (if (strOfNums t316).toList = (strOfNums bt324.1).toList then (if t319 = bt324.2 then ((bloom_May.f k2 ((rd_T26 y311 x74_2).f0) ((rd_T26 y311 x74_2).f1) (⟨#[120]⟩ : ByteArray)).bind fun t334 => ((columbariumlaw9_in.f ((rd_T26 y311 x74_2).f0) ((rd_T26 y311 x74_2).f1)).bind fun bt335 => ((columbariumref9_May.f k2 bt335.1 bt335.2 (⟨#[120]⟩ : ByteArray)).bind fun t339 => (if (t334 != t339) = true then (some false) else (columbariumlaw9_BloomNumbers.l1 k2 y311 (y311.length : Int) (wrap64 (x74_2 + 1))))))) else (some false)) else (some false))))))) = some r := H
              have A53 := Aside0.mk A530
              clear A530
              replace H := Option.bind_eq_some_iff.mp H
              obtain ⟨⟨t324, t327⟩, A540, H⟩ := H
              replace H : ((bloom_Right.f ((rd_T26 y311 x74_2).f0) ((rd_T26 y311 x74_2).f1)).bind fun t328 => ((columbariumlaw9_in.f ((rd_T26 y311 x74_2).f0) ((rd_T26 y311 x74_2).f1)).bind fun bt329 => ((columbariumref9_Right.f k2 bt329.1 bt329.2).bind fun t333 => (if (t328 != t333) = true then (some false) else (if (strOfNums t316).toList = (strOfNums t324).toList then (if t319 = t327 then ((bloom_May.f k2 ((rd_T26 y311 x74_2).f0) ((rd_T26 y311 x74_2).f1) (⟨#[120]⟩ : ByteArray)).bind fun t334 => ((columbariumlaw9_in.f ((rd_T26 y311 x74_2).f0) ((rd_T26 y311 x74_2).f1)).bind fun bt335 => ((columbariumref9_May.f k2 bt335.1 bt335.2 (⟨#[120]⟩ : ByteArray)).bind fun t339 => (if (t334 != t339) = true then (some false) else (columbariumlaw9_BloomNumbers.l1 k2 y311 (y311.length : Int) (wrap64 (x74_2 + 1))))))) else (some false)) else (some false)))))) = some r := H
              have A54 := Aside0.mk A540
              clear A540
              replace H := Option.bind_eq_some_iff.mp H
              obtain ⟨t328, A550, H⟩ := H
              replace H : ((columbariumlaw9_in.f ((rd_T26 y311 x74_2).f0) ((rd_T26 y311 x74_2).f1)).bind fun bt329 => ((columbariumref9_Right.f k2 bt329.1 bt329.2).bind fun t333 => (if (t328 != t333) = true then (some false) else (if (strOfNums t316).toList = (strOfNums t324).toList then (if t319 = t327 then ((bloom_May.f k2 ((rd_T26 y311 x74_2).f0) ((rd_T26 y311 x74_2).f1) (⟨#[120]⟩ : ByteArray)).bind fun t334 => ((columbariumlaw9_in.f ((rd_T26 y311 x74_2).f0) ((rd_T26 y311 x74_2).f1)).bind fun bt335 => ((columbariumref9_May.f k2 bt335.1 bt335.2 (⟨#[120]⟩ : ByteArray)).bind fun t339 => (if (t334 != t339) = true then (some false) else (columbariumlaw9_BloomNumbers.l1 k2 y311 (y311.length : Int) (wrap64 (x74_2 + 1))))))) else (some false)) else (some false))))) = some r := H
              have A55 := Aside0.mk A550
              clear A550
              replace H := Option.bind_eq_some_iff.mp H
              obtain ⟨⟨t329, t330⟩, A560, H⟩ := H
              replace H : ((columbariumref9_Right.f k2 t329 t330).bind fun t333 => (if (t328 != t333) = true then (some false) else (if (strOfNums t316).toList = (strOfNums t324).toList then (if t319 = t327 then ((bloom_May.f k2 ((rd_T26 y311 x74_2).f0) ((rd_T26 y311 x74_2).f1) (⟨#[120]⟩ : ByteArray)).bind fun t334 => ((columbariumlaw9_in.f ((rd_T26 y311 x74_2).f0) ((rd_T26 y311 x74_2).f1)).bind fun bt335 => ((columbariumref9_May.f k2 bt335.1 bt335.2 (⟨#[120]⟩ : ByteArray)).bind fun t339 => (if (t334 != t339) = true then (some false) else (columbariumlaw9_BloomNumbers.l1 k2 y311 (y311.length : Int) (wrap64 (x74_2 + 1))))))) else (some false)) else (some false)))) = some r := H
              have A56 := Aside0.mk A560
              clear A560
              replace H := Option.bind_eq_some_iff.mp H
              obtain ⟨t333, A570, H⟩ := H
              replace H : (if (t328 != t333) = true then (some false) else (if (strOfNums t316).toList = (strOfNums t324).toList then (if t319 = t327 then ((bloom_May.f k2 ((rd_T26 y311 x74_2).f0) ((rd_T26 y311 x74_2).f1) (⟨#[120]⟩ : ByteArray)).bind fun t334 => ((columbariumlaw9_in.f ((rd_T26 y311 x74_2).f0) ((rd_T26 y311 x74_2).f1)).bind fun bt335 => ((columbariumref9_May.f k2 bt335.1 bt335.2 (⟨#[120]⟩ : ByteArray)).bind fun t339 => (if (t334 != t339) = true then (some false) else (columbariumlaw9_BloomNumbers.l1 k2 y311 (y311.length : Int) (wrap64 (x74_2 + 1))))))) else (some false)) else (some false))) = some r := H
              have A57 := Aside0.mk A570
              clear A570
              by_cases c58 : (t328 != t333) = true
              ·rw [if_pos c58] at H
               have c58b0 : (t328 != t333) = true := c58
               (try (have c58b1 : decide (t328 = t333) = false := by simpa using c58))
               (try (have c58b2 : (t328 == t333) = false := by simpa using c58))
               (try (have c58b3 : ¬ (t328 = t333) := by simpa using c58))
               clear c58
               exact absurd ((Option.some.inj H).trans hrt_.out) (by decide)
              ·rw [if_neg c58] at H
               have c58b0 : (t328 != t333) = false := by simpa using c58
               (try (have c58b1 : decide (t328 = t333) = true := by simpa using c58))
               (try (have c58b2 : (t328 == t333) = true := by simpa using c58))
               clear c58
               by_cases c59 : (strOfNums t316).toList = (strOfNums t324).toList
               ·rw [if_pos c59] at H
                have c59b0 : ((strOfNums t316).toList == (strOfNums t324).toList) = true := beq_iff_eq.mpr c59
                have c59b1 : ((strOfNums t316).toList != (strOfNums t324).toList) = false := bne_eq_false_iff_eq.mpr c59
                clear c59
                by_cases c60 : t319 = t327
                ·rw [if_pos c60] at H
                 have c60b0 : (t319 == t327) = true := beq_iff_eq.mpr c60
                 have c60b1 : (t319 != t327) = false := bne_eq_false_iff_eq.mpr c60
                 clear c60
                 replace H := Option.bind_eq_some_iff.mp H
                 obtain ⟨t334, A610, H⟩ := H
                 replace H : ((columbariumlaw9_in.f ((rd_T26 y311 x74_2).f0) ((rd_T26 y311 x74_2).f1)).bind fun bt335 => ((columbariumref9_May.f k2 bt335.1 bt335.2 (⟨#[120]⟩ : ByteArray)).bind fun t339 => (if (t334 != t339) = true then (some false) else (columbariumlaw9_BloomNumbers.l1 k2 y311 (y311.length : Int) (wrap64 (x74_2 + 1)))))) = some r := H
                 have A61 := Aside0.mk A610
                 clear A610
                 replace H := Option.bind_eq_some_iff.mp H
                 obtain ⟨⟨t335, t336⟩, A620, H⟩ := H
                 replace H : ((columbariumref9_May.f k2 t335 t336 (⟨#[120]⟩ : ByteArray)).bind fun t339 => (if (t334 != t339) = true then (some false) else (columbariumlaw9_BloomNumbers.l1 k2 y311 (y311.length : Int) (wrap64 (x74_2 + 1))))) = some r := H
                 have A62 := Aside0.mk A620
                 clear A620
                 replace H := Option.bind_eq_some_iff.mp H
                 obtain ⟨t339, A630, H⟩ := H
                 replace H : (if (t334 != t339) = true then (some false) else (columbariumlaw9_BloomNumbers.l1 k2 y311 (y311.length : Int) (wrap64 (x74_2 + 1)))) = some r := H
                 have A63 := Aside0.mk A630
                 clear A630
                 by_cases c64 : (t334 != t339) = true
                 ·rw [if_pos c64] at H
                  have c64b0 : (t334 != t339) = true := c64
                  (try (have c64b1 : decide (t334 = t339) = false := by simpa using c64))
                  (try (have c64b2 : (t334 == t339) = false := by simpa using c64))
                  (try (have c64b3 : ¬ (t334 = t339) := by simpa using c64))
                  clear c64
                  exact absurd ((Option.some.inj H).trans hrt_.out) (by decide)
                 ·rw [if_neg c64] at H
                  have c64b0 : (t334 != t339) = false := by simpa using c64
                  (try (have c64b1 : decide (t334 = t339) = true := by simpa using c64))
                  (try (have c64b2 : (t334 == t339) = true := by simpa using c64))
                  clear c64
                  have H' := Aside0.mk H
                  clear H
                  have p314 : 0 ≤ (x74_2 : Int) := of_decide_eq_true (by first | (with_reducible assumption) | assumption)
                  have q314 : x74_2 < (y311.length : Int) := of_decide_eq_true (by first | (with_reducible assumption) | assumption)
                  obtain ⟨ad314, A314_1, c314_1, e314, hx314_0, hx314_1, hl314_1, hi314_1⟩ := at_T26 (Kd.N_reads' HO_72.out).2.2 x74_2 p314 q314
                  cases e314
                  obtain ⟨ce314, hce314, hMe314, hcc314⟩ := Kd.N_get HO_72.out z26 x74_2 p314 (by first | exact q314 | exact of_decide_eq_true (by first | (with_reducible assumption) | assumption) | (have e_ := (Kd.N_reads' HO_72.out).1; omega))
                  obtain ⟨ua314_1, uc314_1, rfl, ul314_1, ge314_1⟩ := k26_openF hMe314
                  have hv314_1 := hcc314 1 _ rfl
                  rw [add_field _ _ 1 (by omega)] at hv314_1
                  replace hv314_1 := Option.some.inj (hv314_1.symm.trans hx314_1)
                  injection hv314_1 with hva_ hvn_ hvc_
                  rw [hva_] at ge314_1
                  rw [hvc_] at ul314_1
                  have HL314_1 := Aside0.mk (show Kd.V (Kd.int .u8) 5 _ w.heap.size _ _ ((rd_T26 y311 x74_2).f1) from Kd.V_mk ul314_1 ge314_1)
                  clear hva_ hvn_ hvc_ ge314_1 ul314_1
                  clear hcc314 hce314
                  have HR314_1 := Aside0.mk hi314_1
                  have HC314_1 := Aside0.mk hl314_1
                  clear hi314_1 hl314_1
                  replace p314 := eq_true p314
                  replace q314 := eq_true q314
                  try go_wp2_with (first | ((with_reducible refine gate_dst (N := 6) rfl ?_); refine box_event ?hg (N := 6) ?hd (cs := #[.int .i64 0, .slice none 0 0]) (t := 26) ?hr ?_; (case hd => rfl); (case hg => rfl); (case hr => first | (go_simp; done) | (go_simp; rfl)); intro gb315 hg w65 hbox hb; have n0_ := Aside0.mk (Kd.N_below (Kd.N_elderB (mN HO_72.out) gb315 (Nat.le_of_eq hg.symm)) hb); have n1_ := Aside0.mk (Kd.V_below (Kd.V_elderB (mV HL314_1.out) gb315 (Nat.le_of_eq hg.symm)) hb); have n2_ := Aside0.mk (Kd.C_below (by repeat (first | (with_reducible exact HR314_1.out) | (with_reducible refine Kd.C_alloc ?_ _) | (with_reducible refine Kd.C_drewN ?_ _) | (with_reducible refine Kd.C_drew ?_) | exact HR314_1.out)) hb); have n3_ := Aside0.mk (below_step (mB HB.out) hb); have n4_ := Aside0.mk (hbox); have n5_ := Aside0.mk ((by rw [hg]; exact (below_size (mB HB.out)) : w.heap.size ≤ gb315)); have n6_ := n5_; clear HO_72; clear HL314_1; clear HR314_1; clear HB; have HO_72 := n0_; have HL314_1 := n1_; have HR314_1 := n2_; have HB := n3_; have BK315 := n4_; have GW315 := n5_; have GE315 := n6_; clear n0_ n1_ n2_ n3_ n4_ n5_ n6_; clear hb hbox hg; obtain ⟨hcz66_0, hcz66_1, hfz66_0, hfz66_1⟩ := cells_2 BK315.out) | ((with_reducible refine gate_callee (f := 16) rfl ?_); refine goesL_ (some 80) rfl rfl Try.func16 (by kernel_rfl) rfl #[.agg #[.int .i64 ((rd_T26 y311 x74_2).f0), .slice A314_1 ((rd_T26 y311 x74_2).f1).length c314_1]] rfl (by (try simp only [List.map_toArray, List.map_cons, List.map_nil]); first | done | rfl | (simp only [List.length_drop, List.length_take]; rfl)) ?_; (with_reducible refine (bloom_Encode.calls k2 ((rd_T26 y311 x74_2).f0) _ _ ((rd_T26 y311 x74_2).f1) t316 t319 _ ?side1 ?side2 A52.out).mono ?_); (case side1 => repeat (first | exact ((Kd.V_reads' (by (with_reducible repeat (first | apply Kd.V_alloc | apply Kd.V_drewN | apply Kd.V_drew)); exact (Kd.V_mono (Kd.V_far (p := ⟨gb315, 1, none⟩) (Kd.V_far (p := ⟨gb315, 0, none⟩) (Kd.V_mono HL314_1.out (fun k_ hk => (⟨hk, hk.2⟩ : _ ∧ k_ ≠ gb315))) (fun _ hk => hk.2) (.int .i64 ((rd_T26 y311 x74_2).f0))) (fun _ hk => hk.2) (.slice A314_1 ((rd_T26 y311 x74_2).f1).length c314_1)) (fun _ h_ => h_.1)))).2.2) | (with_reducible refine Kd.C_alloc ?_ _) | (with_reducible refine Kd.C_drewN ?_ _) | (with_reducible refine Kd.C_drew ?_))); (case side2 => first | exact HC314_1.out | exact Kd.V_mono HC314_1.out (fun k_ hk_ => by grind)); rintro e w67 ⟨v317, rfl, ho0, hb⟩; refine ⟨_, rfl, ?_⟩; have n0_ := Aside0.mk (Kd.N_elder' (by (with_reducible repeat (first | apply Kd.N_alloc | apply Kd.N_drewN | apply Kd.N_drew)); exact (Kd.N_mono (Kd.N_far (p := ⟨gb315, 1, none⟩) (Kd.N_far (p := ⟨gb315, 0, none⟩) (Kd.N_mono HO_72.out (fun k_ hk => (⟨hk, hk.2⟩ : _ ∧ k_ ≠ gb315))) (fun _ hk => hk.2) (.int .i64 ((rd_T26 y311 x74_2).f0))) (fun _ hk => hk.2) (.slice A314_1 ((rd_T26 y311 x74_2).f1).length c314_1)) (fun _ h_ => h_.1))) (Kd.R_base ho0) hb); have n1_ := Aside0.mk (Kd.V_elder' (by (with_reducible repeat (first | apply Kd.V_alloc | apply Kd.V_drewN | apply Kd.V_drew)); exact (Kd.V_mono (Kd.V_far (p := ⟨gb315, 1, none⟩) (Kd.V_far (p := ⟨gb315, 0, none⟩) (Kd.V_mono HL314_1.out (fun k_ hk => (⟨hk, hk.2⟩ : _ ∧ k_ ≠ gb315))) (fun _ hk => hk.2) (.int .i64 ((rd_T26 y311 x74_2).f0))) (fun _ hk => hk.2) (.slice A314_1 ((rd_T26 y311 x74_2).f1).length c314_1)) (fun _ h_ => h_.1))) (Kd.R_base ho0) hb); have n2_ := Aside0.mk (Kd.R_lower ho0 (below_size (by repeat (first | (with_reducible first | exact HB.out | apply below_alloc | apply pw_below_drewN | apply below_drew1 | refine below_set ?_ GE315.out) | exact HB.out)))); have n3_ := Aside0.mk (Kd.C_below ((Kd.V_reads' (by (with_reducible repeat (first | apply Kd.V_alloc | apply Kd.V_drewN | apply Kd.V_drew)); exact (Kd.V_mono (Kd.V_far (p := ⟨gb315, 1, none⟩) (Kd.V_far (p := ⟨gb315, 0, none⟩) (Kd.V_mono HL314_1.out (fun k_ hk => (⟨hk, hk.2⟩ : _ ∧ k_ ≠ gb315))) (fun _ hk => hk.2) (.int .i64 ((rd_T26 y311 x74_2).f0))) (fun _ hk => hk.2) (.slice A314_1 ((rd_T26 y311 x74_2).f1).length c314_1)) (fun _ h_ => h_.1)))).2.2) hb); have n4_ := Aside0.mk (blk_below (g := gb315) (o := .cells #[.int .i64 ((rd_T26 y311 x74_2).f0), .slice A314_1 ((rd_T26 y311 x74_2).f1).length c314_1] 26 (0, 0)) (by (with_reducible repeat (first | refine blk_drewN ?_ _ | refine blk_drew ?_ | refine blk_alloc ?_ _)); refine blk_put (cs := #[.int .i64 ((rd_T26 y311 x74_2).f0), .slice none 0 0]) ?_ 1 _ rfl; (with_reducible repeat (first | refine blk_drewN ?_ _ | refine blk_drew ?_ | refine blk_alloc ?_ _)); refine blk_put (cs := #[.int .i64 0, .slice none 0 0]) ?_ 0 _ rfl; (with_reducible repeat (first | refine blk_drewN ?_ _ | refine blk_drew ?_ | refine blk_alloc ?_ _)); exact BK315.out) hb); have n5_ := Aside0.mk (below_step (by repeat (first | (with_reducible first | exact HB.out | apply below_alloc | apply pw_below_drewN | apply below_drew1 | refine below_set ?_ GE315.out) | exact HB.out)) hb); clear HO_72; clear HL314_1; clear HR314_1; clear BK315; clear HB; have HO_72 := n0_; have HL314_1 := n1_; have HO318 := n2_; have HR314_1 := n3_; have BK315 := n4_; have HB := n5_; clear n0_ n1_ n2_ n3_ n4_ n5_; (try clear hb); (try clear hb2); (try clear hk); (try clear hi); (try clear ho0); obtain ⟨hcz68_0, hcz68_1, hfz68_0, hfz68_1⟩ := cells_2 BK315.out) | ((with_reducible refine gate_callee (f := 18) rfl ?_); refine goesL_ (some 85) rfl rfl Try.func18 (by kernel_rfl) rfl #[.agg #[.int .i64 ((rd_T26 y311 x74_2).f0), .slice A314_1 ((rd_T26 y311 x74_2).f1).length c314_1]] rfl (by (try simp only [List.map_toArray, List.map_cons, List.map_nil]); first | done | rfl | (simp only [List.length_drop, List.length_take]; rfl)) ?_; (with_reducible refine (columbariumlaw9_in.calls ((rd_T26 y311 x74_2).f0) (fun k_ => (((True ∧ some k_ ≠ (.slice (some ad314) y311.length co48 : Value).ownBlock) ∧ k_ ≠ gb315) ∧ some k_ ≠ (v317 : Value).ownBlock)) _ _ ((rd_T26 y311 x74_2).f1) t320 t321 _ ?side1 A53.out).mono ?_); (case side1 => first | exact HL314_1.out | exact Kd.V_mono HL314_1.out (fun k_ hk_ => by grind)); rintro e w69 ⟨v322, rfl, ho0, hb⟩; refine ⟨_, rfl, ?_⟩; have n0_ := Aside0.mk (Kd.N_below (mN HO_72.out) hb); have n1_ := Aside0.mk (Kd.V_below (mV HL314_1.out) hb); have n2_ := Aside0.mk (Kd.R_below (mR HO318.out) hb); have n3_ := Aside0.mk (Kd.V_lower (Kd.V_mono (ok' := fun k_ => some k_ ≠ (.slice (some ad314) y311.length co48 : Value).ownBlock ∧ some k_ ≠ (v317 : Value).ownBlock ∧ k_ ≠ gb315) ho0 (fun k_ hk_ => ⟨Or.elim hk_ (fun hs_ => hs_.1.1.2) (fun hn_ => (Kd.fresh' (Kd.N_lt (mN HO_72.out)) k_ hn_)), Or.elim hk_ (fun hs_ => hs_.2) (fun hn_ => (Kd.fresh' (Kd.R_lt (mR HO318.out)) k_ hn_)), Or.elim hk_ (fun hs_ => hs_.1.2) (fun hn_ => (Kd.freshB (g := gb315) (o := .cells #[.int .i64 ((rd_T26 y311 x74_2).f0), .slice A314_1 ((rd_T26 y311 x74_2).f1).length c314_1] 26 (0, 0)) (mK BK315.out) k_ hn_))⟩)) (below_size (by repeat (first | (with_reducible first | exact HB.out | apply below_alloc | apply pw_below_drewN | apply below_drew1 | refine below_set ?_ GE315.out) | exact HB.out)))); have n4_ := Aside0.mk (Kd.C_below (by repeat (first | (with_reducible exact HR314_1.out) | (with_reducible refine Kd.C_alloc ?_ _) | (with_reducible refine Kd.C_drewN ?_ _) | (with_reducible refine Kd.C_drew ?_) | exact HR314_1.out)) hb); have n5_ := Aside0.mk (blk_below (g := gb315) (o := .cells #[.int .i64 ((rd_T26 y311 x74_2).f0), .slice A314_1 ((rd_T26 y311 x74_2).f1).length c314_1] 26 (0, 0)) (mK BK315.out) hb); have n6_ := Aside0.mk (below_step (by repeat (first | (with_reducible first | exact HB.out | apply below_alloc | apply pw_below_drewN | apply below_drew1 | refine below_set ?_ GE315.out) | exact HB.out)) hb); clear HO_72; clear HL314_1; clear HO318; clear HR314_1; clear BK315; clear HB; have HO_72 := n0_; have HL314_1 := n1_; have HO318 := n2_; have HO323 := n3_; have HR314_1 := n4_; have BK315 := n5_; have HB := n6_; clear n0_ n1_ n2_ n3_ n4_ n5_ n6_; (try clear hb); (try clear hb2); (try clear hk); (try clear hi); (try clear ho0); obtain ⟨Ao70, co70, eo70⟩ := Kd.V_slice HO323.out; subst eo70) | ((with_reducible refine gate_callee (f := 17) rfl ?_); refine goesL_ (some 86) rfl rfl Try.func17 (by kernel_rfl) rfl #[.agg #[.int .i64 t320, .slice Ao70 t321.length co70]] rfl (by (try simp only [List.map_toArray, List.map_cons, List.map_nil]); first | done | rfl | (simp only [List.length_drop, List.length_take]; rfl)) ?_; (with_reducible refine (columbariumref9_Encode.calls k2 t320 _ _ t321 t324 t327 _ ?side1 ?side2 A54.out).mono ?_); (case side1 => repeat (first | exact (Kd.V_reads' HO323.out).2.2 | (with_reducible refine Kd.C_alloc ?_ _) | (with_reducible refine Kd.C_drewN ?_ _) | (with_reducible refine Kd.C_drew ?_))); (case side2 => exact (Kd.V_reads' HO323.out).2.1); rintro e w71 ⟨v325, rfl, ho0, hb⟩; refine ⟨_, rfl, ?_⟩; have n0_ := Aside0.mk (Kd.N_elder' (mN HO_72.out) (Kd.R_base ho0) hb); have n1_ := Aside0.mk (Kd.V_elder' (mV HL314_1.out) (Kd.R_base ho0) hb); have n2_ := Aside0.mk (Kd.R_elder' (mR HO318.out) (Kd.R_base ho0) hb); have n3_ := Aside0.mk (Kd.V_elder' (mV HO323.out) (Kd.R_base ho0) hb); have n4_ := Aside0.mk (Kd.R_lower (Kd.R_new' ho0 (Kd.R_lt (mR HO318.out))) (below_size (by repeat (first | (with_reducible first | exact HB.out | apply below_alloc | apply pw_below_drewN | apply below_drew1 | refine below_set ?_ GE315.out) | exact HB.out)))); have n5_ := Aside0.mk (Kd.C_below (by repeat (first | (with_reducible exact HR314_1.out) | (with_reducible refine Kd.C_alloc ?_ _) | (with_reducible refine Kd.C_drewN ?_ _) | (with_reducible refine Kd.C_drew ?_) | exact HR314_1.out)) hb); have n6_ := Aside0.mk (blk_below (g := gb315) (o := .cells #[.int .i64 ((rd_T26 y311 x74_2).f0), .slice A314_1 ((rd_T26 y311 x74_2).f1).length c314_1] 26 (0, 0)) (mK BK315.out) hb); have n7_ := Aside0.mk (below_step (by repeat (first | (with_reducible first | exact HB.out | apply below_alloc | apply pw_below_drewN | apply below_drew1 | refine below_set ?_ GE315.out) | exact HB.out)) hb); clear HO_72; clear HL314_1; clear HO318; clear HO323; clear HR314_1; clear BK315; clear HB; have HO_72 := n0_; have HL314_1 := n1_; have HO318 := n2_; have HO323 := n3_; have HO326 := n4_; have HR314_1 := n5_; have BK315 := n6_; have HB := n7_; clear n0_ n1_ n2_ n3_ n4_ n5_ n6_ n7_; (try clear hb); (try clear hb2); (try clear hk); (try clear hi); (try clear ho0)))
                  have n0_ := Aside0.mk (Kd.N_drew HO_72.out)
                  have n1_ := Aside0.mk (Kd.V_drew HL314_1.out)
                  have n2_ := Aside0.mk (Kd.R_drew HO318.out)
                  have n3_ := Aside0.mk (Kd.V_drew HO323.out)
                  have n4_ := Aside0.mk (Kd.R_drew HO326.out)
                  have n5_ := Aside0.mk (blk_drew BK315.out)
                  have n6_ := Aside0.mk (Kd.C_drew HR314_1.out)
                  have n7_ := Aside0.mk (below_drew1 HB.out)
                  clear HO_72
                  clear HL314_1
                  clear HO318
                  clear HO323
                  clear HO326
                  clear BK315
                  clear HR314_1
                  clear HB
                  have HO_72 := n0_
                  have HL314_1 := n1_
                  have HO318 := n2_
                  have HO323 := n3_
                  have HO326 := n4_
                  have BK315 := n5_
                  have HR314_1 := n6_
                  have HB := n7_
                  clear n0_ n1_ n2_ n3_ n4_ n5_ n6_ n7_
                  refine start_ (n := 26) (S := fun w' => w'.cell? ⟨gb315, 0, none⟩ = some (.int .i64 ((rd_T26 y311 x74_2).f0)) ∧ w'.cell? ⟨gb315, 1, none⟩ = some (.slice A314_1 ((rd_T26 y311 x74_2).f1).length c314_1) ∧ World.ownsRow w' w.heap.size 5 1 (v317) t316.length (nums .u8 t316) ∧ World.ownsRow w' w.heap.size 5 1 (v325) t324.length (nums .u8 t324)) (ds := []) #[false, false, false, false, false, false, false, false, false, false, false, false, false, false, false, false, false, false, false, false, false, false, false, false, false, false] (by kernel_rfl) rfl rfl ⟨(blk_cell BK315.out 0).trans rfl, (blk_cell BK315.out 1).trans rfl, (Kd.own_of_R HO318.out), (Kd.own_of_R HO326.out)⟩ (fun hHeld => ?_); refine with_tabW columbariumlaw9_BloomNumbers.tab15 columbariumlaw9_BloomNumbers.bits15 (fun HT_ HW_ => ?_)
                  generalize w71.drew = w72 at HO_72 HL314_1 HO318 HO323 HO326 BK315 HR314_1 HB hHeld ⊢
                  refine take_ (i := 0) (N := some 89) (v := ?_) (a' := ?_) #[true, false, false, false, false, false, false, false, false, false, false, false, false, false, false, false, false, false, false, false, false, false, false, false, false, false] rfl rfl (take_ofW HT_.out HW_.out (by kernel_rfl)) (fun _ _ _ h => h) (Or.inl ⟨by rfl, ?_⟩) hHeld ?_ ?_
                  rotate_left
                  ·rintro w' ⟨s0, s1, s2, s3⟩
                   go_simp
                   with_reducible rfl
                  rotate_left
                  ·simp only [Act.put, List.setIfInBounds_toArray, List.set_cons_zero, List.set_cons_succ, i64_w, i32_w]
                   rfl
                  refine take_ (i := 2) (N := some 91) (v := ?_) (a' := ?_) #[true, false, true, false, false, false, false, false, false, false, false, false, false, false, false, false, false, false, false, false, false, false, false, false, false, false] rfl rfl (take_ofW HT_.out HW_.out (by kernel_rfl)) (fun _ _ _ h => h) (Or.inl ⟨by rfl, ?_⟩) hHeld ?_ ?_
                  rotate_left
                  ·rintro w' ⟨s0, s1, s2, s3⟩
                   go_simp
                   with_reducible rfl
                  rotate_left
                  ·simp only [Act.put, List.setIfInBounds_toArray, List.set_cons_zero, List.set_cons_succ, i64_w, i32_w]
                   rfl
                  refine one_ (i := 1) (N := some 90) #[true, true, true, false, false, false, false, false, false, false, false, false, false, false, false, false, false, false, false, false, false, false, false, false, false, false] rfl rfl (one_of HT_.out (by kernel_rfl)) (by decide) (fun K hK => ?_)
                  refine goes_ Try.func13 (by kernel_rfl) rfl #[.agg #[.int .i64 ((rd_T26 y311 x74_2).f0), .slice A314_1 ((rd_T26 y311 x74_2).f1).length c314_1]] (by rfl) rfl rfl (by (try simp only [List.map_toArray, List.map_cons, List.map_nil]); first | done | rfl | (simp only [List.length_drop, List.length_take]; rfl)) ?_
                  with_reducible refine (bloom_Right.calls ((rd_T26 y311 x74_2).f0) _ _ ((rd_T26 y311 x74_2).f1) t328 _ ?side1 ?side2 A55.out).mono ?_
                  (case side1 => repeat (first | exact (by repeat (first | (with_reducible exact HR314_1.out) | (with_reducible refine Kd.C_alloc ?_ _) | (with_reducible refine Kd.C_drewN ?_ _) | (with_reducible refine Kd.C_drew ?_) | exact HR314_1.out)) | (with_reducible refine Kd.C_alloc ?_ _) | (with_reducible refine Kd.C_drewN ?_ _) | (with_reducible refine Kd.C_drew ?_)))
                  (case side2 => first | exact HC314_1.out | exact Kd.V_mono HC314_1.out (fun k_ hk_ => by grind))
                  rintro e w73 ⟨rfl, hb⟩
                  have HS2_ := pw_own_below (hHeld.2.2.1) hb
                  have HS3_ := pw_own_below (hHeld.2.2.2) hb
                  refine ⟨_, rfl, ?_⟩
                  have n0_ := Aside0.mk (Kd.N_below (mN HO_72.out) hb)
                  have n1_ := Aside0.mk (Kd.V_below (mV HL314_1.out) hb)
                  have n2_ := Aside0.mk (Kd.R_below (mR HO318.out) hb)
                  have n3_ := Aside0.mk (Kd.V_below (mV HO323.out) hb)
                  have n4_ := Aside0.mk (Kd.R_below (mR HO326.out) hb)
                  have n5_ := Aside0.mk (Kd.C_below (by repeat (first | (with_reducible exact HR314_1.out) | (with_reducible refine Kd.C_alloc ?_ _) | (with_reducible refine Kd.C_drewN ?_ _) | (with_reducible refine Kd.C_drew ?_) | exact HR314_1.out)) hb)
                  have n6_ := Aside0.mk (blk_below (g := gb315) (o := .cells #[.int .i64 ((rd_T26 y311 x74_2).f0), .slice A314_1 ((rd_T26 y311 x74_2).f1).length c314_1] 26 (0, 0)) (mK BK315.out) hb)
                  have n7_ := Aside0.mk (below_step (by repeat (first | (with_reducible first | exact HB.out | apply below_alloc | apply pw_below_drewN | apply below_drew1 | refine below_set ?_ GE315.out) | exact HB.out)) hb)
                  clear HO_72
                  clear HL314_1
                  clear HO318
                  clear HO323
                  clear HO326
                  clear HR314_1
                  clear BK315
                  clear HB
                  have HO_72 := n0_
                  have HL314_1 := n1_
                  have HO318 := n2_
                  have HO323 := n3_
                  have HO326 := n4_
                  have HR314_1 := n5_
                  have BK315 := n6_
                  have HB := n7_
                  clear n0_ n1_ n2_ n3_ n4_ n5_ n6_ n7_
                  (try clear hb)
                  (try clear hb2)
                  (try clear hk)
                  (try clear hi)
                  refine hK.out _ _ ⟨(blk_cell BK315.out 0).trans rfl, (blk_cell BK315.out 1).trans rfl, HS2_, HS3_⟩ (fun hHeld => ?_)
                  clear hK K
                  refine norm_ (a' := ?_) ?_ ?_
                  rotate_left
                  ·show Act.put _ (some 90) _ = _
                   simp only [Act.put, List.setIfInBounds_toArray, List.set_cons_zero, List.set_cons_succ, i64_w, i32_w]
                   rfl
                  refine one_ (i := 3) (N := some 92) #[true, true, true, true, false, false, false, false, false, false, false, false, false, false, false, false, false, false, false, false, false, false, false, false, false, false] rfl rfl (one_of HT_.out (by kernel_rfl)) (by decide) (fun K hK => ?_)
                  refine goes_ Try.func18 (by kernel_rfl) rfl #[.agg #[.int .i64 ((rd_T26 y311 x74_2).f0), .slice A314_1 ((rd_T26 y311 x74_2).f1).length c314_1]] (by rfl) rfl rfl (by (try simp only [List.map_toArray, List.map_cons, List.map_nil]); first | done | rfl | (simp only [List.length_drop, List.length_take]; rfl)) ?_
                  with_reducible refine (columbariumlaw9_in.calls ((rd_T26 y311 x74_2).f0) (fun k_ => ((((True ∧ some k_ ≠ (.slice (some ad314) y311.length co48 : Value).ownBlock) ∧ k_ ≠ gb315) ∧ some k_ ≠ (v317 : Value).ownBlock) ∧ some k_ ≠ (v325 : Value).ownBlock)) _ _ ((rd_T26 y311 x74_2).f1) t329 t330 _ ?side1 A56.out).mono ?_
                  (case side1 => first | exact HL314_1.out | exact Kd.V_mono HL314_1.out (fun k_ hk_ => by grind))
                  rintro e w74 ⟨v331, rfl, ho0, hb⟩
                  have HS2_ := pw_own_below (hHeld.2.2.1) hb
                  have HS3_ := pw_own_below (hHeld.2.2.2) hb
                  refine ⟨_, rfl, ?_⟩
                  have n0_ := Aside0.mk (Kd.N_below (mN HO_72.out) hb)
                  have n1_ := Aside0.mk (Kd.V_below (mV HL314_1.out) hb)
                  have n2_ := Aside0.mk (Kd.R_below (mR HO318.out) hb)
                  have n3_ := Aside0.mk (Kd.V_below (mV HO323.out) hb)
                  have n4_ := Aside0.mk (Kd.R_below (mR HO326.out) hb)
                  have n5_ := Aside0.mk (Kd.V_lower (Kd.V_mono (ok' := fun k_ => some k_ ≠ (.slice (some ad314) y311.length co48 : Value).ownBlock ∧ some k_ ≠ (v317 : Value).ownBlock ∧ some k_ ≠ (v325 : Value).ownBlock ∧ k_ ≠ gb315) ho0 (fun k_ hk_ => ⟨Or.elim hk_ (fun hs_ => hs_.1.1.1.2) (fun hn_ => (Kd.fresh' (Kd.N_lt (mN HO_72.out)) k_ hn_)), Or.elim hk_ (fun hs_ => hs_.1.2) (fun hn_ => (Kd.fresh' (Kd.R_lt (mR HO318.out)) k_ hn_)), Or.elim hk_ (fun hs_ => hs_.2) (fun hn_ => (Kd.fresh' (Kd.R_lt (mR HO326.out)) k_ hn_)), Or.elim hk_ (fun hs_ => hs_.1.1.2) (fun hn_ => (Kd.freshB (g := gb315) (o := .cells #[.int .i64 ((rd_T26 y311 x74_2).f0), .slice A314_1 ((rd_T26 y311 x74_2).f1).length c314_1] 26 (0, 0)) (mK BK315.out) k_ hn_))⟩)) (below_size (by repeat (first | (with_reducible first | exact HB.out | apply below_alloc | apply pw_below_drewN | apply below_drew1 | refine below_set ?_ GE315.out) | exact HB.out))))
                  have n6_ := Aside0.mk (Kd.C_below (by repeat (first | (with_reducible exact HR314_1.out) | (with_reducible refine Kd.C_alloc ?_ _) | (with_reducible refine Kd.C_drewN ?_ _) | (with_reducible refine Kd.C_drew ?_) | exact HR314_1.out)) hb)
                  have n7_ := Aside0.mk (blk_below (g := gb315) (o := .cells #[.int .i64 ((rd_T26 y311 x74_2).f0), .slice A314_1 ((rd_T26 y311 x74_2).f1).length c314_1] 26 (0, 0)) (mK BK315.out) hb)
                  have n8_ := Aside0.mk (below_step (by repeat (first | (with_reducible first | exact HB.out | apply below_alloc | apply pw_below_drewN | apply below_drew1 | refine below_set ?_ GE315.out) | exact HB.out)) hb)
                  clear HO_72
                  clear HL314_1
                  clear HO318
                  clear HO323
                  clear HO326
                  clear HR314_1
                  clear BK315
                  clear HB
                  have HO_72 := n0_
                  have HL314_1 := n1_
                  have HO318 := n2_
                  have HO323 := n3_
                  have HO326 := n4_
                  have HO332 := n5_
                  have HR314_1 := n6_
                  have BK315 := n7_
                  have HB := n8_
                  clear n0_ n1_ n2_ n3_ n4_ n5_ n6_ n7_ n8_
                  (try clear hb)
                  (try clear hb2)
                  (try clear hk)
                  (try clear hi)
                  (try clear ho0)
                  obtain ⟨Ao75, co75, eo75⟩ := Kd.V_slice HO332.out
                  (first | subst eo75 | (injection eo75 with f1_ f2_ f3_; have f4_ := f1_.symm; have f5_ := f3_.symm; clear f1_ f2_ f3_; subst f4_; subst f5_))
                  refine hK.out _ _ ⟨(blk_cell BK315.out 0).trans rfl, (blk_cell BK315.out 1).trans rfl, HS2_, HS3_⟩ (fun hHeld => ?_)
                  clear hK K
                  refine norm_ (a' := ?_) ?_ ?_
                  rotate_left
                  ·show Act.put _ (some 92) _ = _
                   simp only [Act.put, List.setIfInBounds_toArray, List.set_cons_zero, List.set_cons_succ, i64_w, i32_w]
                   rfl
                  refine one_ (i := 4) (N := some 93) #[true, true, true, true, true, false, false, false, false, false, false, false, false, false, false, false, false, false, false, false, false, false, false, false, false, false] rfl rfl (one_of HT_.out (by kernel_rfl)) (by decide) (fun K hK => ?_)
                  refine goes_ Try.func19 (by kernel_rfl) rfl #[.agg #[.int .i64 t329, .slice Ao75 t330.length co75]] (by rfl) rfl rfl (by (try simp only [List.map_toArray, List.map_cons, List.map_nil]); first | done | rfl | (simp only [List.length_drop, List.length_take]; rfl)) ?_
                  with_reducible refine (columbariumref9_Right.calls k2 t329 _ _ t330 t333 _ ?side1 ?side2 A57.out).mono ?_
                  (case side1 => repeat (first | exact (Kd.V_reads' HO332.out).2.2 | (with_reducible refine Kd.C_alloc ?_ _) | (with_reducible refine Kd.C_drewN ?_ _) | (with_reducible refine Kd.C_drew ?_)))
                  (case side2 => exact (Kd.V_reads' HO332.out).2.1)
                  rintro e w76 ⟨rfl, hb⟩
                  have HS2_ := pw_own_below (hHeld.2.2.1) hb
                  have HS3_ := pw_own_below (hHeld.2.2.2) hb
                  refine ⟨_, rfl, ?_⟩
                  have n0_ := Aside0.mk (Kd.N_below (mN HO_72.out) hb)
                  have n1_ := Aside0.mk (Kd.V_below (mV HL314_1.out) hb)
                  have n2_ := Aside0.mk (Kd.R_below (mR HO318.out) hb)
                  have n3_ := Aside0.mk (Kd.V_below (mV HO323.out) hb)
                  have n4_ := Aside0.mk (Kd.R_below (mR HO326.out) hb)
                  have n5_ := Aside0.mk (Kd.V_below (mV HO332.out) hb)
                  have n6_ := Aside0.mk (Kd.C_below (by repeat (first | (with_reducible exact HR314_1.out) | (with_reducible refine Kd.C_alloc ?_ _) | (with_reducible refine Kd.C_drewN ?_ _) | (with_reducible refine Kd.C_drew ?_) | exact HR314_1.out)) hb)
                  have n7_ := Aside0.mk (blk_below (g := gb315) (o := .cells #[.int .i64 ((rd_T26 y311 x74_2).f0), .slice A314_1 ((rd_T26 y311 x74_2).f1).length c314_1] 26 (0, 0)) (mK BK315.out) hb)
                  have n8_ := Aside0.mk (below_step (by repeat (first | (with_reducible first | exact HB.out | apply below_alloc | apply pw_below_drewN | apply below_drew1 | refine below_set ?_ GE315.out) | exact HB.out)) hb)
                  clear HO_72
                  clear HL314_1
                  clear HO318
                  clear HO323
                  clear HO326
                  clear HO332
                  clear HR314_1
                  clear BK315
                  clear HB
                  have HO_72 := n0_
                  have HL314_1 := n1_
                  have HO318 := n2_
                  have HO323 := n3_
                  have HO326 := n4_
                  have HO332 := n5_
                  have HR314_1 := n6_
                  have BK315 := n7_
                  have HB := n8_
                  clear n0_ n1_ n2_ n3_ n4_ n5_ n6_ n7_ n8_
                  (try clear hb)
                  (try clear hb2)
                  (try clear hk)
                  (try clear hi)
                  refine hK.out _ _ ⟨(blk_cell BK315.out 0).trans rfl, (blk_cell BK315.out 1).trans rfl, HS2_, HS3_⟩ (fun hHeld => ?_)
                  clear hK K
                  refine norm_ (a' := ?_) ?_ ?_
                  rotate_left
                  ·show Act.put _ (some 93) _ = _
                   simp only [Act.put, List.setIfInBounds_toArray, List.set_cons_zero, List.set_cons_succ, i64_w, i32_w]
                   rfl
                  refine pure_ (i := 5) (N := some 94) (v := ?_) (a' := ?_) #[true, true, true, true, true, true, false, false, false, false, false, false, false, false, false, false, false, false, false, false, false, false, false, false, false, false] rfl rfl (any_of HT_.out (by kernel_rfl)) (fun _ _ _ h => h) (Or.inl ⟨by rfl, ?_⟩) ?_ ?_
                  rotate_left
                  ·intro w'
                   go_simp
                   with_reducible rfl
                  rotate_left
                  ·simp only [Act.put, List.setIfInBounds_toArray, List.set_cons_zero, List.set_cons_succ, i64_w, i32_w]
                   rfl
                  refine pure_ (i := 6) (N := some 95) (v := ?_) (a' := ?_) #[true, true, true, true, true, true, true, false, false, false, false, false, false, false, false, false, false, false, false, false, false, false, false, false, false, false] rfl rfl (any_of HT_.out (by kernel_rfl)) (fun _ _ _ h => h) (Or.inl ⟨by rfl, ?_⟩) ?_ ?_
                  rotate_left
                  ·intro w'
                   go_simp
                   with_reducible rfl
                  rotate_left
                  ·simp only [Act.put, List.setIfInBounds_toArray, List.set_cons_zero, List.set_cons_succ, i64_w, i32_w]
                   rfl
                  refine pure_ (i := 7) (N := some 96) (v := ?_) (a' := ?_) #[true, true, true, true, true, true, true, true, false, false, false, false, false, false, false, false, false, false, false, false, false, false, false, false, false, false] rfl rfl (any_of HT_.out (by kernel_rfl)) (fun _ _ _ h => h) (Or.inl ⟨by rfl, ?_⟩) ?_ ?_
                  rotate_left
                  ·intro w'
                   go_simp
                   with_reducible rfl
                  rotate_left
                  ·simp only [Act.put, List.setIfInBounds_toArray, List.set_cons_zero, List.set_cons_succ, i64_w, i32_w]
                   rfl
                  refine pure_ (i := 9) (N := some 98) (v := ?_) (a' := ?_) #[true, true, true, true, true, true, true, true, false, true, false, false, false, false, false, false, false, false, false, false, false, false, false, false, false, false] rfl rfl (any_of HT_.out (by kernel_rfl)) (fun _ _ _ h => h) (Or.inl ⟨by rfl, ?_⟩) ?_ ?_
                  rotate_left
                  ·intro w'
                   go_simp
                   with_reducible rfl
                  rotate_left
                  ·simp only [Act.put, List.setIfInBounds_toArray, List.set_cons_zero, List.set_cons_succ, i64_w, i32_w]
                   rfl
                  refine take_ (i := 8) (N := some 97) (v := ?_) (a' := ?_) #[true, true, true, true, true, true, true, true, true, true, false, false, false, false, false, false, false, false, false, false, false, false, false, false, false, false] rfl rfl (take_ofW HT_.out HW_.out (by kernel_rfl)) (fun _ _ _ h => h) (Or.inl ⟨by rfl, ?_⟩) hHeld ?_ ?_
                  rotate_left
                  ·rintro w' ⟨s0, s1, s2, s3⟩
                   (try have hz0_ := own_string (P := Try.prog) Try.underlying24 Try.underlying5 Try.underlying9 s0)
                   (try have hz0_ := fun c_ : Nat => Kd.C_string (P := Try.prog) (c := c_) Try.underlying24 Try.underlying5 Try.underlying9 s0)
                   (try have hz1_ := own_string (P := Try.prog) Try.underlying24 Try.underlying5 Try.underlying9 s1)
                   (try have hz1_ := fun c_ : Nat => Kd.C_string (P := Try.prog) (c := c_) Try.underlying24 Try.underlying5 Try.underlying9 s1)
                   (try have hz2_ := own_string (P := Try.prog) Try.underlying24 Try.underlying5 Try.underlying9 s2)
                   (try have hz2_ := fun c_ : Nat => Kd.C_string (P := Try.prog) (c := c_) Try.underlying24 Try.underlying5 Try.underlying9 s2)
                   (try have hz3_ := own_string (P := Try.prog) Try.underlying24 Try.underlying5 Try.underlying9 s3)
                   (try have hz3_ := fun c_ : Nat => Kd.C_string (P := Try.prog) (c := c_) Try.underlying24 Try.underlying5 Try.underlying9 s3)
                   go_simp
                   with_reducible rfl
                  rotate_left
                  ·simp only [Act.put, List.setIfInBounds_toArray, List.set_cons_zero, List.set_cons_succ, i64_w, i32_w]
                   rfl
                  refine take_ (i := 10) (N := some 99) (v := ?_) (a' := ?_) #[true, true, true, true, true, true, true, true, true, true, true, false, false, false, false, false, false, false, false, false, false, false, false, false, false, false] rfl rfl (take_ofW HT_.out HW_.out (by kernel_rfl)) (fun _ _ _ h => h) (Or.inl ⟨by rfl, ?_⟩) hHeld ?_ ?_
                  rotate_left
                  ·rintro w' ⟨s0, s1, s2, s3⟩
                   (try have hz0_ := own_string (P := Try.prog) Try.underlying24 Try.underlying5 Try.underlying9 s0)
                   (try have hz0_ := fun c_ : Nat => Kd.C_string (P := Try.prog) (c := c_) Try.underlying24 Try.underlying5 Try.underlying9 s0)
                   (try have hz1_ := own_string (P := Try.prog) Try.underlying24 Try.underlying5 Try.underlying9 s1)
                   (try have hz1_ := fun c_ : Nat => Kd.C_string (P := Try.prog) (c := c_) Try.underlying24 Try.underlying5 Try.underlying9 s1)
                   (try have hz2_ := own_string (P := Try.prog) Try.underlying24 Try.underlying5 Try.underlying9 s2)
                   (try have hz2_ := fun c_ : Nat => Kd.C_string (P := Try.prog) (c := c_) Try.underlying24 Try.underlying5 Try.underlying9 s2)
                   (try have hz3_ := own_string (P := Try.prog) Try.underlying24 Try.underlying5 Try.underlying9 s3)
                   (try have hz3_ := fun c_ : Nat => Kd.C_string (P := Try.prog) (c := c_) Try.underlying24 Try.underlying5 Try.underlying9 s3)
                   go_simp
                   with_reducible rfl
                  rotate_left
                  ·simp only [Act.put, List.setIfInBounds_toArray, List.set_cons_zero, List.set_cons_succ, i64_w, i32_w]
                   rfl
                  refine pure_ (i := 11) (N := some 100) (v := ?_) (a' := ?_) #[true, true, true, true, true, true, true, true, true, true, true, true, false, false, false, false, false, false, false, false, false, false, false, false, false, false] rfl rfl (any_of HT_.out (by kernel_rfl)) (fun _ _ _ h => h) (Or.inl ⟨by rfl, ?_⟩) ?_ ?_
                  rotate_left
                  ·intro w'
                   go_simp
                   with_reducible rfl
                  rotate_left
                  ·simp only [Act.put, List.setIfInBounds_toArray, List.set_cons_zero, List.set_cons_succ, i64_w, i32_w]
                   rfl
                  refine pure_ (i := 12) (N := some 101) (v := ?_) (a' := ?_) #[true, true, true, true, true, true, true, true, true, true, true, true, true, false, false, false, false, false, false, false, false, false, false, false, false, false] rfl rfl (any_of HT_.out (by kernel_rfl)) (fun _ _ _ h => h) (Or.inl ⟨by rfl, ?_⟩) ?_ ?_
                  rotate_left
                  ·intro w'
                   go_simp
                   with_reducible rfl
                  rotate_left
                  ·simp only [Act.put, List.setIfInBounds_toArray, List.set_cons_zero, List.set_cons_succ, i64_w, i32_w]
                   rfl
                  refine pure_ (i := 13) (N := some 102) (v := ?_) (a' := ?_) #[true, true, true, true, true, true, true, true, true, true, true, true, true, true, false, false, false, false, false, false, false, false, false, false, false, false] rfl rfl (any_of HT_.out (by kernel_rfl)) (fun _ _ _ h => h) (Or.inl ⟨by rfl, ?_⟩) ?_ ?_
                  rotate_left
                  ·intro w'
                   go_simp
                   with_reducible rfl
                  rotate_left
                  ·simp only [Act.put, List.setIfInBounds_toArray, List.set_cons_zero, List.set_cons_succ, i64_w, i32_w]
                   rfl
                  refine pure_ (i := 14) (N := some 103) (v := ?_) (a' := ?_) #[true, true, true, true, true, true, true, true, true, true, true, true, true, true, true, false, false, false, false, false, false, false, false, false, false, false] rfl rfl (any_of HT_.out (by kernel_rfl)) (fun _ _ _ h => h) (Or.inl ⟨by rfl, ?_⟩) ?_ ?_
                  rotate_left
                  ·intro w'
                   go_simp
                   with_reducible rfl
                  rotate_left
                  ·simp only [Act.put, List.setIfInBounds_toArray, List.set_cons_zero, List.set_cons_succ, i64_w, i32_w]
                   rfl
                  refine pure_ (i := 15) (N := some 104) (v := ?_) (a' := ?_) #[true, true, true, true, true, true, true, true, true, true, true, true, true, true, true, true, false, false, false, false, false, false, false, false, false, false] rfl rfl (any_of HT_.out (by kernel_rfl)) (fun _ _ _ h => h) (Or.inl ⟨by rfl, ?_⟩) ?_ ?_
                  rotate_left
                  ·intro w'
                   go_simp
                   with_reducible rfl
                  rotate_left
                  ·simp only [Act.put, List.setIfInBounds_toArray, List.set_cons_zero, List.set_cons_succ, i64_w, i32_w]
                   rfl
                  refine pure_ (i := 16) (N := some 105) (v := ?_) (a' := ?_) #[true, true, true, true, true, true, true, true, true, true, true, true, true, true, true, true, true, false, false, false, false, false, false, false, false, false] rfl rfl (any_of HT_.out (by kernel_rfl)) (fun _ _ _ h => h) (Or.inl ⟨by rfl, ?_⟩) ?_ ?_
                  rotate_left
                  ·intro w'
                   go_simp
                   with_reducible rfl
                  rotate_left
                  ·simp only [Act.put, List.setIfInBounds_toArray, List.set_cons_zero, List.set_cons_succ, i64_w, i32_w]
                   rfl
                  refine pure_ (i := 17) (N := some 106) (v := ?_) (a' := ?_) #[true, true, true, true, true, true, true, true, true, true, true, true, true, true, true, true, true, true, false, false, false, false, false, false, false, false] rfl rfl (any_of HT_.out (by kernel_rfl)) (fun _ _ _ h => h) (Or.inl ⟨by rfl, ?_⟩) ?_ ?_
                  rotate_left
                  ·intro w'
                   go_simp
                   with_reducible rfl
                  rotate_left
                  ·simp only [Act.put, List.setIfInBounds_toArray, List.set_cons_zero, List.set_cons_succ, i64_w, i32_w]
                   rfl
                  refine pure_ (i := 18) (N := some 107) (v := ?_) (a' := ?_) #[true, true, true, true, true, true, true, true, true, true, true, true, true, true, true, true, true, true, true, false, false, false, false, false, false, false] rfl rfl (any_of HT_.out (by kernel_rfl)) (fun _ _ _ h => h) (Or.inl ⟨by rfl, ?_⟩) ?_ ?_
                  rotate_left
                  ·intro w'
                   go_simp
                   with_reducible rfl
                  rotate_left
                  ·simp only [Act.put, List.setIfInBounds_toArray, List.set_cons_zero, List.set_cons_succ, i64_w, i32_w]
                   rfl
                  refine take_ (i := 19) (N := some 108) (v := ?_) (a' := ?_) #[true, true, true, true, true, true, true, true, true, true, true, true, true, true, true, true, true, true, true, true, false, false, false, false, false, false] rfl rfl (take_ofW HT_.out HW_.out (by kernel_rfl)) (fun _ _ _ h => h) (Or.inl ⟨by rfl, ?_⟩) hHeld ?_ ?_
                  rotate_left
                  ·rintro w' ⟨s0, s1, s2, s3⟩
                   go_simp
                   with_reducible rfl
                  rotate_left
                  ·simp only [Act.put, List.setIfInBounds_toArray, List.set_cons_zero, List.set_cons_succ, i64_w, i32_w]
                   rfl
                  refine take_ (i := 21) (N := some 110) (v := ?_) (a' := ?_) #[true, true, true, true, true, true, true, true, true, true, true, true, true, true, true, true, true, true, true, true, false, true, false, false, false, false] rfl rfl (take_ofW HT_.out HW_.out (by kernel_rfl)) (fun _ _ _ h => h) (Or.inl ⟨by rfl, ?_⟩) hHeld ?_ ?_
                  rotate_left
                  ·rintro w' ⟨s0, s1, s2, s3⟩
                   go_simp
                   with_reducible rfl
                  rotate_left
                  ·simp only [Act.put, List.setIfInBounds_toArray, List.set_cons_zero, List.set_cons_succ, i64_w, i32_w]
                   rfl
                  refine one_ (i := 20) (N := some 109) #[true, true, true, true, true, true, true, true, true, true, true, true, true, true, true, true, true, true, true, true, true, true, false, false, false, false] rfl rfl (one_of HT_.out (by kernel_rfl)) (by decide) (fun K hK => ?_)
                  refine goes_ Try.func11 (by kernel_rfl) rfl #[.agg #[.int .i64 ((rd_T26 y311 x74_2).f0), .slice A314_1 ((rd_T26 y311 x74_2).f1).length c314_1], .string (⟨#[120]⟩ : ByteArray)] (by rfl) rfl rfl (by (try simp only [List.map_toArray, List.map_cons, List.map_nil]); first | done | rfl | (simp only [List.length_drop, List.length_take]; rfl)) ?_
                  with_reducible refine (bloom_May.calls k2 ((rd_T26 y311 x74_2).f0) _ _ ((rd_T26 y311 x74_2).f1) (⟨#[120]⟩ : ByteArray) t334 _ ?side1 ?side2 A61.out).mono ?_
                  (case side1 => repeat (first | exact ((Kd.V_reads' (mV HL314_1.out)).2.2) | (with_reducible refine Kd.C_alloc ?_ _) | (with_reducible refine Kd.C_drewN ?_ _) | (with_reducible refine Kd.C_drew ?_)))
                  (case side2 => first | exact HC314_1.out | exact Kd.V_mono HC314_1.out (fun k_ hk_ => by grind))
                  rintro e w78 ⟨rfl, hb⟩
                  have HS2_ := pw_own_below (hHeld.2.2.1) hb
                  have HS3_ := pw_own_below (hHeld.2.2.2) hb
                  refine ⟨_, rfl, ?_⟩
                  have n0_ := Aside0.mk (Kd.N_below (mN HO_72.out) hb)
                  have n1_ := Aside0.mk (Kd.V_below (mV HL314_1.out) hb)
                  have n2_ := Aside0.mk (Kd.R_below (mR HO318.out) hb)
                  have n3_ := Aside0.mk (Kd.V_below (mV HO323.out) hb)
                  have n4_ := Aside0.mk (Kd.R_below (mR HO326.out) hb)
                  have n5_ := Aside0.mk (Kd.V_below (mV HO332.out) hb)
                  have n6_ := Aside0.mk (blk_below (g := gb315) (o := .cells #[.int .i64 ((rd_T26 y311 x74_2).f0), .slice A314_1 ((rd_T26 y311 x74_2).f1).length c314_1] 26 (0, 0)) (mK BK315.out) hb)
                  have n7_ := Aside0.mk (below_step (by repeat (first | (with_reducible first | exact HB.out | apply below_alloc | apply pw_below_drewN | apply below_drew1 | refine below_set ?_ GE315.out) | exact HB.out)) hb)
                  clear HO_72
                  clear HL314_1
                  clear HO318
                  clear HO323
                  clear HO326
                  clear HO332
                  clear BK315
                  clear HB
                  have HO_72 := n0_
                  have HL314_1 := n1_
                  have HO318 := n2_
                  have HO323 := n3_
                  have HO326 := n4_
                  have HO332 := n5_
                  have BK315 := n6_
                  have HB := n7_
                  clear n0_ n1_ n2_ n3_ n4_ n5_ n6_ n7_
                  (try clear hb)
                  (try clear hb2)
                  (try clear hk)
                  (try clear hi)
                  refine hK.out _ _ ⟨(blk_cell BK315.out 0).trans rfl, (blk_cell BK315.out 1).trans rfl, HS2_, HS3_⟩ (fun hHeld => ?_)
                  clear hK K
                  refine norm_ (a' := ?_) ?_ ?_
                  rotate_left
                  ·show Act.put _ (some 109) _ = _
                   simp only [Act.put, List.setIfInBounds_toArray, List.set_cons_zero, List.set_cons_succ, i64_w, i32_w]
                   rfl
                  refine one_ (i := 22) (N := some 111) #[true, true, true, true, true, true, true, true, true, true, true, true, true, true, true, true, true, true, true, true, true, true, true, false, false, false] rfl rfl (one_of HT_.out (by kernel_rfl)) (by decide) (fun K hK => ?_)
                  refine goes_ Try.func18 (by kernel_rfl) rfl #[.agg #[.int .i64 ((rd_T26 y311 x74_2).f0), .slice A314_1 ((rd_T26 y311 x74_2).f1).length c314_1]] (by rfl) rfl rfl (by (try simp only [List.map_toArray, List.map_cons, List.map_nil]); first | done | rfl | (simp only [List.length_drop, List.length_take]; rfl)) ?_
                  with_reducible refine (columbariumlaw9_in.calls ((rd_T26 y311 x74_2).f0) (fun k_ => (some k_ ≠ (v317 : Value).ownBlock ∧ (some k_ ≠ (v325 : Value).ownBlock ∧ (some k_ ≠ (.slice (some ad314) y311.length co48 : Value).ownBlock ∧ k_ ≠ gb315)))) _ _ ((rd_T26 y311 x74_2).f1) t335 t336 _ ?side1 A62.out).mono ?_
                  (case side1 => first | exact HL314_1.out | exact Kd.V_mono HL314_1.out (fun k_ hk_ => by grind))
                  rintro e w79 ⟨v337, rfl, ho0, hb⟩
                  have HS2_ := pw_own_below (hHeld.2.2.1) hb
                  have HS3_ := pw_own_below (hHeld.2.2.2) hb
                  refine ⟨_, rfl, ?_⟩
                  have n0_ := Aside0.mk (Kd.N_below (mN HO_72.out) hb)
                  have n1_ := Aside0.mk (Kd.V_below (mV HL314_1.out) hb)
                  have n2_ := Aside0.mk (Kd.R_below (mR HO318.out) hb)
                  have n3_ := Aside0.mk (Kd.V_below (mV HO323.out) hb)
                  have n4_ := Aside0.mk (Kd.R_below (mR HO326.out) hb)
                  have n5_ := Aside0.mk (Kd.V_below (mV HO332.out) hb)
                  have n6_ := Aside0.mk (Kd.V_lower (Kd.V_mono (ok' := fun k_ => some k_ ≠ (.slice (some ad314) y311.length co48 : Value).ownBlock ∧ some k_ ≠ (v317 : Value).ownBlock ∧ some k_ ≠ (v325 : Value).ownBlock ∧ k_ ≠ gb315) ho0 (fun k_ hk_ => ⟨Or.elim hk_ (fun hs_ => hs_.2.2.1) (fun hn_ => (Kd.fresh' (Kd.N_lt (mN HO_72.out)) k_ hn_)), Or.elim hk_ (fun hs_ => hs_.1) (fun hn_ => (Kd.fresh' (Kd.R_lt (mR HO318.out)) k_ hn_)), Or.elim hk_ (fun hs_ => hs_.2.1) (fun hn_ => (Kd.fresh' (Kd.R_lt (mR HO326.out)) k_ hn_)), Or.elim hk_ (fun hs_ => hs_.2.2.2) (fun hn_ => (Kd.freshB (g := gb315) (o := .cells #[.int .i64 ((rd_T26 y311 x74_2).f0), .slice A314_1 ((rd_T26 y311 x74_2).f1).length c314_1] 26 (0, 0)) (mK BK315.out) k_ hn_))⟩)) (below_size (by repeat (first | (with_reducible first | exact HB.out | apply below_alloc | apply pw_below_drewN | apply below_drew1 | refine below_set ?_ GE315.out) | exact HB.out))))
                  have n7_ := Aside0.mk (blk_below (g := gb315) (o := .cells #[.int .i64 ((rd_T26 y311 x74_2).f0), .slice A314_1 ((rd_T26 y311 x74_2).f1).length c314_1] 26 (0, 0)) (mK BK315.out) hb)
                  have n8_ := Aside0.mk (below_step (by repeat (first | (with_reducible first | exact HB.out | apply below_alloc | apply pw_below_drewN | apply below_drew1 | refine below_set ?_ GE315.out) | exact HB.out)) hb)
                  clear HO_72
                  clear HL314_1
                  clear HO318
                  clear HO323
                  clear HO326
                  clear HO332
                  clear BK315
                  clear HB
                  have HO_72 := n0_
                  have HL314_1 := n1_
                  have HO318 := n2_
                  have HO323 := n3_
                  have HO326 := n4_
                  have HO332 := n5_
                  have HO338 := n6_
                  have BK315 := n7_
                  have HB := n8_
                  clear n0_ n1_ n2_ n3_ n4_ n5_ n6_ n7_ n8_
                  (try clear hb)
                  (try clear hb2)
                  (try clear hk)
                  (try clear hi)
                  (try clear ho0)
                  obtain ⟨Ao80, co80, eo80⟩ := Kd.V_slice HO338.out
                  (first | subst eo80 | (injection eo80 with f1_ f2_ f3_; have f4_ := f1_.symm; have f5_ := f3_.symm; clear f1_ f2_ f3_; subst f4_; subst f5_))
                  refine hK.out _ _ ⟨(blk_cell BK315.out 0).trans rfl, (blk_cell BK315.out 1).trans rfl, HS2_, HS3_⟩ (fun hHeld => ?_)
                  clear hK K
                  refine norm_ (a' := ?_) ?_ ?_
                  rotate_left
                  ·show Act.put _ (some 111) _ = _
                   simp only [Act.put, List.setIfInBounds_toArray, List.set_cons_zero, List.set_cons_succ, i64_w, i32_w]
                   rfl
                  refine one_ (i := 23) (N := some 112) #[true, true, true, true, true, true, true, true, true, true, true, true, true, true, true, true, true, true, true, true, true, true, true, true, false, false] rfl rfl (one_of HT_.out (by kernel_rfl)) (by decide) (fun K hK => ?_)
                  refine goes_ Try.func20 (by kernel_rfl) rfl #[.agg #[.int .i64 t335, .slice Ao80 t336.length co80], .string (⟨#[120]⟩ : ByteArray)] (by rfl) rfl rfl (by (try simp only [List.map_toArray, List.map_cons, List.map_nil]); first | done | rfl | (simp only [List.length_drop, List.length_take]; rfl)) ?_
                  with_reducible refine (columbariumref9_May.calls k2 t335 _ _ t336 (⟨#[120]⟩ : ByteArray) t339 _ ?side1 ?side2 A63.out).mono ?_
                  (case side1 => repeat (first | exact (Kd.V_reads' HO338.out).2.2 | (with_reducible refine Kd.C_alloc ?_ _) | (with_reducible refine Kd.C_drewN ?_ _) | (with_reducible refine Kd.C_drew ?_)))
                  (case side2 => exact (Kd.V_reads' HO338.out).2.1)
                  rintro e w81 ⟨rfl, hb⟩
                  have HS2_ := pw_own_below (hHeld.2.2.1) hb
                  have HS3_ := pw_own_below (hHeld.2.2.2) hb
                  refine ⟨_, rfl, ?_⟩
                  have n0_ := Aside0.mk (Kd.N_below (mN HO_72.out) hb)
                  have n1_ := Aside0.mk (Kd.V_below (mV HL314_1.out) hb)
                  have n2_ := Aside0.mk (Kd.R_below (mR HO318.out) hb)
                  have n3_ := Aside0.mk (Kd.V_below (mV HO323.out) hb)
                  have n4_ := Aside0.mk (Kd.R_below (mR HO326.out) hb)
                  have n5_ := Aside0.mk (Kd.V_below (mV HO332.out) hb)
                  have n6_ := Aside0.mk (Kd.V_below (mV HO338.out) hb)
                  have n7_ := Aside0.mk (blk_below (g := gb315) (o := .cells #[.int .i64 ((rd_T26 y311 x74_2).f0), .slice A314_1 ((rd_T26 y311 x74_2).f1).length c314_1] 26 (0, 0)) (mK BK315.out) hb)
                  have n8_ := Aside0.mk (below_step (by repeat (first | (with_reducible first | exact HB.out | apply below_alloc | apply pw_below_drewN | apply below_drew1 | refine below_set ?_ GE315.out) | exact HB.out)) hb)
                  clear HO_72
                  clear HL314_1
                  clear HO318
                  clear HO323
                  clear HO326
                  clear HO332
                  clear HO338
                  clear BK315
                  clear HB
                  have HO_72 := n0_
                  have HL314_1 := n1_
                  have HO318 := n2_
                  have HO323 := n3_
                  have HO326 := n4_
                  have HO332 := n5_
                  have HO338 := n6_
                  have BK315 := n7_
                  have HB := n8_
                  clear n0_ n1_ n2_ n3_ n4_ n5_ n6_ n7_ n8_
                  (try clear hb)
                  (try clear hb2)
                  (try clear hk)
                  (try clear hi)
                  refine hK.out _ _ ⟨(blk_cell BK315.out 0).trans rfl, (blk_cell BK315.out 1).trans rfl, HS2_, HS3_⟩ (fun hHeld => ?_)
                  clear hK K
                  refine norm_ (a' := ?_) ?_ ?_
                  rotate_left
                  ·show Act.put _ (some 112) _ = _
                   simp only [Act.put, List.setIfInBounds_toArray, List.set_cons_zero, List.set_cons_succ, i64_w, i32_w]
                   rfl
                  refine pure_ (i := 24) (N := some 113) (v := ?_) (a' := ?_) #[true, true, true, true, true, true, true, true, true, true, true, true, true, true, true, true, true, true, true, true, true, true, true, true, true, false] rfl rfl (any_of HT_.out (by kernel_rfl)) (fun _ _ _ h => h) (Or.inl ⟨by rfl, ?_⟩) ?_ ?_
                  rotate_left
                  ·intro w'
                   go_simp
                   with_reducible rfl
                  rotate_left
                  ·simp only [Act.put, List.setIfInBounds_toArray, List.set_cons_zero, List.set_cons_succ, i64_w, i32_w]
                   rfl
                  refine pure_ (i := 25) (N := some 114) (v := ?_) (a' := ?_) #[true, true, true, true, true, true, true, true, true, true, true, true, true, true, true, true, true, true, true, true, true, true, true, true, true, true] rfl rfl (any_of HT_.out (by kernel_rfl)) (fun _ _ _ h => h) (Or.inl ⟨by rfl, ?_⟩) ?_ ?_
                  rotate_left
                  ·intro w'
                   go_simp
                   with_reducible rfl
                  rotate_left
                  ·simp only [Act.put, List.setIfInBounds_toArray, List.set_cons_zero, List.set_cons_succ, i64_w, i32_w]
                   rfl
                  refine done_ (done_of HT_.out (by kernel_rfl)) ?_
                  try go_wp2
                  go_roundg k2
                  case measure => have := HK1.out; have := HK2.out; omega
                  case rel => exact ⟨(wrap64 (x74_2 + 1)), (by first | rfl | (simp; done) | (simp [*]; done)), H', ⟨by have := HK1.out; have := HK2.out; omega⟩, ⟨by (with_reducible repeat (first | apply Kd.N_alloc | apply Kd.N_drewN | apply Kd.N_drew)); exact Kd.N_mono HO_72.out (fun _ hk => trivial)⟩, ⟨by repeat (first | (with_reducible first | exact HB.out | apply below_alloc | apply pw_below_drewN | apply below_drew1 | refine below_set ?_ GE315.out) | exact HB.out)⟩⟩
                ·rw [if_neg c60] at H
                 have c60b0 : (t319 == t327) = false := beq_eq_false_iff_ne.mpr c60
                 have c60b1 : (t319 != t327) = true := bne_iff_ne.mpr c60
                 exact absurd ((Option.some.inj H).trans hrt_.out) (by decide)
               ·rw [if_neg c59] at H
                have c59b0 : ((strOfNums t316).toList == (strOfNums t324).toList) = false := beq_eq_false_iff_ne.mpr c59
                have c59b1 : ((strOfNums t316).toList != (strOfNums t324).toList) = true := bne_iff_ne.mpr c59
                exact absurd ((Option.some.inj H).trans hrt_.out) (by decide)
             ·rw [if_neg c51] at H
              exact absurd H (by simp)
            ·rw [if_neg c50] at H
             exact absurd H (by simp)
           ·rw [if_neg c49] at H
            have c49b0 : decide (x74_2 < (y311.length : Int)) = false := decide_eq_false c49
            clear c49
            obtain ⟨y340, hy340⟩ : ∃ y_ : List Int, y_ = (([64] : List Int)) := ⟨_, rfl⟩
            replace H : ((some (([[], y340, (([64, 1, 2, 3, 4, 5, 6, 7] : List Int)), (([64, 1, 2, 3, 4, 5, 6, 7, 8] : List Int)), (([96, 1, 2, 3] : List Int)), (([128, 1, 1, 2, 3] : List Int)), (([128, 128, 8] : List Int))] : List (List Int)) : List (List Int))).bind fun y358 => (columbariumlaw9_BloomNumbers.l2 k2 y358 (y358.length : Int) 0)) = some r := by first | (rw [hy340]; with_reducible exact H) | (have H2_ := (Option.bind_some _ _).symm.trans H; rw [hy340]; with_reducible exact H2_) | (have H2_ := (Option.bind_some _ _).symm.trans H; with_reducible exact H2_) | with_reducible exact H | (rw [hy340]; exact H) | exact H
            have Ny340 := Aside0.mk hy340
            clear hy340
            obtain ⟨y343, hy343⟩ : ∃ y_ : List Int, y_ = (([64, 1, 2, 3, 4, 5, 6, 7] : List Int)) := ⟨_, rfl⟩
            replace H : ((some (([[], y340, y343, (([64, 1, 2, 3, 4, 5, 6, 7, 8] : List Int)), (([96, 1, 2, 3] : List Int)), (([128, 1, 1, 2, 3] : List Int)), (([128, 128, 8] : List Int))] : List (List Int)) : List (List Int))).bind fun y358 => (columbariumlaw9_BloomNumbers.l2 k2 y358 (y358.length : Int) 0)) = some r := by first | (rw [hy343]; with_reducible exact H) | (have H2_ := (Option.bind_some _ _).symm.trans H; rw [hy343]; with_reducible exact H2_) | (have H2_ := (Option.bind_some _ _).symm.trans H; with_reducible exact H2_) | with_reducible exact H | (rw [hy343]; exact H) | exact H
            have Ny343 := Aside0.mk hy343
            clear hy343
            obtain ⟨y346, hy346⟩ : ∃ y_ : List Int, y_ = (([64, 1, 2, 3, 4, 5, 6, 7, 8] : List Int)) := ⟨_, rfl⟩
            replace H : ((some (([[], y340, y343, y346, (([96, 1, 2, 3] : List Int)), (([128, 1, 1, 2, 3] : List Int)), (([128, 128, 8] : List Int))] : List (List Int)) : List (List Int))).bind fun y358 => (columbariumlaw9_BloomNumbers.l2 k2 y358 (y358.length : Int) 0)) = some r := by first | (rw [hy346]; with_reducible exact H) | (have H2_ := (Option.bind_some _ _).symm.trans H; rw [hy346]; with_reducible exact H2_) | (have H2_ := (Option.bind_some _ _).symm.trans H; with_reducible exact H2_) | with_reducible exact H | (rw [hy346]; exact H) | exact H
            have Ny346 := Aside0.mk hy346
            clear hy346
            obtain ⟨y349, hy349⟩ : ∃ y_ : List Int, y_ = (([96, 1, 2, 3] : List Int)) := ⟨_, rfl⟩
            replace H : ((some (([[], y340, y343, y346, y349, (([128, 1, 1, 2, 3] : List Int)), (([128, 128, 8] : List Int))] : List (List Int)) : List (List Int))).bind fun y358 => (columbariumlaw9_BloomNumbers.l2 k2 y358 (y358.length : Int) 0)) = some r := by first | (rw [hy349]; with_reducible exact H) | (have H2_ := (Option.bind_some _ _).symm.trans H; rw [hy349]; with_reducible exact H2_) | (have H2_ := (Option.bind_some _ _).symm.trans H; with_reducible exact H2_) | with_reducible exact H | (rw [hy349]; exact H) | exact H
            have Ny349 := Aside0.mk hy349
            clear hy349
            obtain ⟨y352, hy352⟩ : ∃ y_ : List Int, y_ = (([128, 1, 1, 2, 3] : List Int)) := ⟨_, rfl⟩
            replace H : ((some (([[], y340, y343, y346, y349, y352, (([128, 128, 8] : List Int))] : List (List Int)) : List (List Int))).bind fun y358 => (columbariumlaw9_BloomNumbers.l2 k2 y358 (y358.length : Int) 0)) = some r := by first | (rw [hy352]; with_reducible exact H) | (have H2_ := (Option.bind_some _ _).symm.trans H; rw [hy352]; with_reducible exact H2_) | (have H2_ := (Option.bind_some _ _).symm.trans H; with_reducible exact H2_) | with_reducible exact H | (rw [hy352]; exact H) | exact H
            have Ny352 := Aside0.mk hy352
            clear hy352
            obtain ⟨y355, hy355⟩ : ∃ y_ : List Int, y_ = (([128, 128, 8] : List Int)) := ⟨_, rfl⟩
            replace H : ((some (([[], y340, y343, y346, y349, y352, y355] : List (List Int)) : List (List Int))).bind fun y358 => (columbariumlaw9_BloomNumbers.l2 k2 y358 (y358.length : Int) 0)) = some r := by first | (rw [hy355]; with_reducible exact H) | (have H2_ := (Option.bind_some _ _).symm.trans H; rw [hy355]; with_reducible exact H2_) | (have H2_ := (Option.bind_some _ _).symm.trans H; with_reducible exact H2_) | with_reducible exact H | (rw [hy355]; exact H) | exact H
            have Ny355 := Aside0.mk hy355
            clear hy355
            obtain ⟨y358, hy358⟩ : ∃ y_ : List (List Int), y_ = (([[], y340, y343, y346, y349, y352, y355] : List (List Int))) := ⟨_, rfl⟩
            replace H : (columbariumlaw9_BloomNumbers.l2 k2 y358 (y358.length : Int) 0) = some r := by first | (rw [hy358]; with_reducible exact H) | (have H2_ := (Option.bind_some _ _).symm.trans H; rw [hy358]; with_reducible exact H2_) | (have H2_ := (Option.bind_some _ _).symm.trans H; with_reducible exact H2_) | with_reducible exact H | (rw [hy358]; exact H) | exact H
            have Ny358 := Aside0.mk hy358
            clear hy358
            have H' := Aside0.mk H
            clear H
            go_wp2_with (first | ((with_reducible refine gate_dst (N := 116) rfl ?_); refine Kd.R_lit (Kd.int .u8) _ 5 ?hg (N := 116) ?hd (xs := ([64] : List Int)) (inner := [.int .u8 64]) (ok := fun _ => True) (okp := fun _ => True) ?hr ?hp (fun _ hk => hk) trivial (Below.refl _ _) (Nat.le_refl _) (by simp) ?_; (case hd => rfl); (case hg => rfl); (case hr => first | (go_simp; done) | (go_simp; rfl)); (case hp => exact (Reps.one (show Kd.M (Kd.int .u8) _ _ _ 64 [.int .u8 64] from rfl) (Reps.none _ _))); intro v341 w82 ho83 hb hg_ hnew_; clear hg_ hnew_; (first | rw [← Ny340.out] at ho83 | (simp only [Int.reduceToNat] at ho83; rw [← Ny340.out] at ho83)); have n0_ := Aside0.mk (Kd.N_elder' (mN HO_72.out) (Kd.R_base ho83) hb); have n1_ := Aside0.mk (Kd.R_lower ho83 (below_size (mB HB.out))); have n2_ := Aside0.mk (below_step (mB HB.out) hb); clear HO_72; clear HB; have HO_72 := n0_; have HO342 := n1_; have HB := n2_; clear n0_ n1_ n2_; clear hb ho83) | ((with_reducible refine gate_dst (N := 117) rfl ?_); refine Kd.R_lit (Kd.int .u8) _ 5 ?hg (N := 117) ?hd (xs := ([64, 1, 2, 3, 4, 5, 6, 7] : List Int)) (inner := [.int .u8 64, .int .u8 1, .int .u8 2, .int .u8 3, .int .u8 4, .int .u8 5, .int .u8 6, .int .u8 7]) (ok := fun _ => True) (okp := fun _ => True) ?hr ?hp (fun _ hk => hk) trivial (Below.refl _ _) (Nat.le_refl _) (by simp) ?_; (case hd => rfl); (case hg => rfl); (case hr => first | (go_simp; done) | (go_simp; rfl)); (case hp => exact (Reps.one (show Kd.M (Kd.int .u8) _ _ _ 64 [.int .u8 64] from rfl) (Reps.one (show Kd.M (Kd.int .u8) _ _ _ 1 [.int .u8 1] from rfl) (Reps.one (show Kd.M (Kd.int .u8) _ _ _ 2 [.int .u8 2] from rfl) (Reps.one (show Kd.M (Kd.int .u8) _ _ _ 3 [.int .u8 3] from rfl) (Reps.one (show Kd.M (Kd.int .u8) _ _ _ 4 [.int .u8 4] from rfl) (Reps.one (show Kd.M (Kd.int .u8) _ _ _ 5 [.int .u8 5] from rfl) (Reps.one (show Kd.M (Kd.int .u8) _ _ _ 6 [.int .u8 6] from rfl) (Reps.one (show Kd.M (Kd.int .u8) _ _ _ 7 [.int .u8 7] from rfl) (Reps.none _ _)))))))))); intro v344 w84 ho85 hb hg_ hnew_; clear hg_ hnew_; (first | rw [← Ny343.out] at ho85 | (simp only [Int.reduceToNat] at ho85; rw [← Ny343.out] at ho85)); have n0_ := Aside0.mk (Kd.N_elder' (mN HO_72.out) (Kd.R_base ho85) hb); have n1_ := Aside0.mk (Kd.R_elder' (mR HO342.out) (Kd.R_base ho85) hb); have n2_ := Aside0.mk (Kd.R_lower (Kd.R_new' ho85 (Kd.R_lt (mR HO342.out))) (below_size (mB HB.out))); have n3_ := Aside0.mk (below_step (mB HB.out) hb); clear HO_72; clear HO342; clear HB; have HO_72 := n0_; have HO342 := n1_; have HO345 := n2_; have HB := n3_; clear n0_ n1_ n2_ n3_; clear hb ho85) | ((with_reducible refine gate_dst (N := 118) rfl ?_); refine Kd.R_lit (Kd.int .u8) _ 5 ?hg (N := 118) ?hd (xs := ([64, 1, 2, 3, 4, 5, 6, 7, 8] : List Int)) (inner := [.int .u8 64, .int .u8 1, .int .u8 2, .int .u8 3, .int .u8 4, .int .u8 5, .int .u8 6, .int .u8 7, .int .u8 8]) (ok := fun _ => True) (okp := fun _ => True) ?hr ?hp (fun _ hk => hk) trivial (Below.refl _ _) (Nat.le_refl _) (by simp) ?_; (case hd => rfl); (case hg => rfl); (case hr => first | (go_simp; done) | (go_simp; rfl)); (case hp => exact (Reps.one (show Kd.M (Kd.int .u8) _ _ _ 64 [.int .u8 64] from rfl) (Reps.one (show Kd.M (Kd.int .u8) _ _ _ 1 [.int .u8 1] from rfl) (Reps.one (show Kd.M (Kd.int .u8) _ _ _ 2 [.int .u8 2] from rfl) (Reps.one (show Kd.M (Kd.int .u8) _ _ _ 3 [.int .u8 3] from rfl) (Reps.one (show Kd.M (Kd.int .u8) _ _ _ 4 [.int .u8 4] from rfl) (Reps.one (show Kd.M (Kd.int .u8) _ _ _ 5 [.int .u8 5] from rfl) (Reps.one (show Kd.M (Kd.int .u8) _ _ _ 6 [.int .u8 6] from rfl) (Reps.one (show Kd.M (Kd.int .u8) _ _ _ 7 [.int .u8 7] from rfl) (Reps.one (show Kd.M (Kd.int .u8) _ _ _ 8 [.int .u8 8] from rfl) (Reps.none _ _))))))))))); intro v347 w86 ho87 hb hg_ hnew_; clear hg_ hnew_; (first | rw [← Ny346.out] at ho87 | (simp only [Int.reduceToNat] at ho87; rw [← Ny346.out] at ho87)); have n0_ := Aside0.mk (Kd.N_elder' (mN HO_72.out) (Kd.R_base ho87) hb); have n1_ := Aside0.mk (Kd.R_elder' (mR HO342.out) (Kd.R_base ho87) hb); have n2_ := Aside0.mk (Kd.R_elder' (mR HO345.out) (Kd.R_base ho87) hb); have n3_ := Aside0.mk (Kd.R_lower (Kd.R_new' (Kd.R_new' ho87 (Kd.R_lt (mR HO342.out))) (Kd.R_lt (mR HO345.out))) (below_size (mB HB.out))); have n4_ := Aside0.mk (below_step (mB HB.out) hb); clear HO_72; clear HO342; clear HO345; clear HB; have HO_72 := n0_; have HO342 := n1_; have HO345 := n2_; have HO348 := n3_; have HB := n4_; clear n0_ n1_ n2_ n3_ n4_; clear hb ho87) | ((with_reducible refine gate_dst (N := 119) rfl ?_); refine Kd.R_lit (Kd.int .u8) _ 5 ?hg (N := 119) ?hd (xs := ([96, 1, 2, 3] : List Int)) (inner := [.int .u8 96, .int .u8 1, .int .u8 2, .int .u8 3]) (ok := fun _ => True) (okp := fun _ => True) ?hr ?hp (fun _ hk => hk) trivial (Below.refl _ _) (Nat.le_refl _) (by simp) ?_; (case hd => rfl); (case hg => rfl); (case hr => first | (go_simp; done) | (go_simp; rfl)); (case hp => exact (Reps.one (show Kd.M (Kd.int .u8) _ _ _ 96 [.int .u8 96] from rfl) (Reps.one (show Kd.M (Kd.int .u8) _ _ _ 1 [.int .u8 1] from rfl) (Reps.one (show Kd.M (Kd.int .u8) _ _ _ 2 [.int .u8 2] from rfl) (Reps.one (show Kd.M (Kd.int .u8) _ _ _ 3 [.int .u8 3] from rfl) (Reps.none _ _)))))); intro v350 w88 ho89 hb hg_ hnew_; clear hg_ hnew_; (first | rw [← Ny349.out] at ho89 | (simp only [Int.reduceToNat] at ho89; rw [← Ny349.out] at ho89)); have n0_ := Aside0.mk (Kd.N_elder' (mN HO_72.out) (Kd.R_base ho89) hb); have n1_ := Aside0.mk (Kd.R_elder' (mR HO342.out) (Kd.R_base ho89) hb); have n2_ := Aside0.mk (Kd.R_elder' (mR HO345.out) (Kd.R_base ho89) hb); have n3_ := Aside0.mk (Kd.R_elder' (mR HO348.out) (Kd.R_base ho89) hb); have n4_ := Aside0.mk (Kd.R_lower (Kd.R_new' (Kd.R_new' (Kd.R_new' ho89 (Kd.R_lt (mR HO342.out))) (Kd.R_lt (mR HO345.out))) (Kd.R_lt (mR HO348.out))) (below_size (mB HB.out))); have n5_ := Aside0.mk (below_step (mB HB.out) hb); clear HO_72; clear HO342; clear HO345; clear HO348; clear HB; have HO_72 := n0_; have HO342 := n1_; have HO345 := n2_; have HO348 := n3_; have HO351 := n4_; have HB := n5_; clear n0_ n1_ n2_ n3_ n4_ n5_; clear hb ho89) | ((with_reducible refine gate_dst (N := 120) rfl ?_); refine Kd.R_lit (Kd.int .u8) _ 5 ?hg (N := 120) ?hd (xs := ([128, 1, 1, 2, 3] : List Int)) (inner := [.int .u8 128, .int .u8 1, .int .u8 1, .int .u8 2, .int .u8 3]) (ok := fun _ => True) (okp := fun _ => True) ?hr ?hp (fun _ hk => hk) trivial (Below.refl _ _) (Nat.le_refl _) (by simp) ?_; (case hd => rfl); (case hg => rfl); (case hr => first | (go_simp; done) | (go_simp; rfl)); (case hp => exact (Reps.one (show Kd.M (Kd.int .u8) _ _ _ 128 [.int .u8 128] from rfl) (Reps.one (show Kd.M (Kd.int .u8) _ _ _ 1 [.int .u8 1] from rfl) (Reps.one (show Kd.M (Kd.int .u8) _ _ _ 1 [.int .u8 1] from rfl) (Reps.one (show Kd.M (Kd.int .u8) _ _ _ 2 [.int .u8 2] from rfl) (Reps.one (show Kd.M (Kd.int .u8) _ _ _ 3 [.int .u8 3] from rfl) (Reps.none _ _))))))); intro v353 w90 ho91 hb hg_ hnew_; clear hg_ hnew_; (first | rw [← Ny352.out] at ho91 | (simp only [Int.reduceToNat] at ho91; rw [← Ny352.out] at ho91)); have n0_ := Aside0.mk (Kd.N_elder' (mN HO_72.out) (Kd.R_base ho91) hb); have n1_ := Aside0.mk (Kd.R_elder' (mR HO342.out) (Kd.R_base ho91) hb); have n2_ := Aside0.mk (Kd.R_elder' (mR HO345.out) (Kd.R_base ho91) hb); have n3_ := Aside0.mk (Kd.R_elder' (mR HO348.out) (Kd.R_base ho91) hb); have n4_ := Aside0.mk (Kd.R_elder' (mR HO351.out) (Kd.R_base ho91) hb); have n5_ := Aside0.mk (Kd.R_lower (Kd.R_new' (Kd.R_new' (Kd.R_new' (Kd.R_new' ho91 (Kd.R_lt (mR HO342.out))) (Kd.R_lt (mR HO345.out))) (Kd.R_lt (mR HO348.out))) (Kd.R_lt (mR HO351.out))) (below_size (mB HB.out))); have n6_ := Aside0.mk (below_step (mB HB.out) hb); clear HO_72; clear HO342; clear HO345; clear HO348; clear HO351; clear HB; have HO_72 := n0_; have HO342 := n1_; have HO345 := n2_; have HO348 := n3_; have HO351 := n4_; have HO354 := n5_; have HB := n6_; clear n0_ n1_ n2_ n3_ n4_ n5_ n6_; clear hb ho91) | ((with_reducible refine gate_dst (N := 121) rfl ?_); refine Kd.R_lit (Kd.int .u8) _ 5 ?hg (N := 121) ?hd (xs := ([128, 128, 8] : List Int)) (inner := [.int .u8 128, .int .u8 128, .int .u8 8]) (ok := fun _ => True) (okp := fun _ => True) ?hr ?hp (fun _ hk => hk) trivial (Below.refl _ _) (Nat.le_refl _) (by simp) ?_; (case hd => rfl); (case hg => rfl); (case hr => first | (go_simp; done) | (go_simp; rfl)); (case hp => exact (Reps.one (show Kd.M (Kd.int .u8) _ _ _ 128 [.int .u8 128] from rfl) (Reps.one (show Kd.M (Kd.int .u8) _ _ _ 128 [.int .u8 128] from rfl) (Reps.one (show Kd.M (Kd.int .u8) _ _ _ 8 [.int .u8 8] from rfl) (Reps.none _ _))))); intro v356 w92 ho93 hb hg_ hnew_; clear hg_ hnew_; (first | rw [← Ny355.out] at ho93 | (simp only [Int.reduceToNat] at ho93; rw [← Ny355.out] at ho93)); have n0_ := Aside0.mk (Kd.N_elder' (mN HO_72.out) (Kd.R_base ho93) hb); have n1_ := Aside0.mk (Kd.R_elder' (mR HO342.out) (Kd.R_base ho93) hb); have n2_ := Aside0.mk (Kd.R_elder' (mR HO345.out) (Kd.R_base ho93) hb); have n3_ := Aside0.mk (Kd.R_elder' (mR HO348.out) (Kd.R_base ho93) hb); have n4_ := Aside0.mk (Kd.R_elder' (mR HO351.out) (Kd.R_base ho93) hb); have n5_ := Aside0.mk (Kd.R_elder' (mR HO354.out) (Kd.R_base ho93) hb); have n6_ := Aside0.mk (Kd.R_lower (Kd.R_new' (Kd.R_new' (Kd.R_new' (Kd.R_new' (Kd.R_new' ho93 (Kd.R_lt (mR HO342.out))) (Kd.R_lt (mR HO345.out))) (Kd.R_lt (mR HO348.out))) (Kd.R_lt (mR HO351.out))) (Kd.R_lt (mR HO354.out))) (below_size (mB HB.out))); have n7_ := Aside0.mk (below_step (mB HB.out) hb); clear HO_72; clear HO342; clear HO345; clear HO348; clear HO351; clear HO354; clear HB; have HO_72 := n0_; have HO342 := n1_; have HO345 := n2_; have HO348 := n3_; have HO351 := n4_; have HO354 := n5_; have HO357 := n6_; have HB := n7_; clear n0_ n1_ n2_ n3_ n4_ n5_ n6_ n7_; clear hb ho93; obtain ⟨Ao94, co94, eo94⟩ := Kd.R_slice HO342.out; subst eo94; obtain ⟨Ao95, co95, eo95⟩ := Kd.R_slice HO345.out; subst eo95; obtain ⟨Ao96, co96, eo96⟩ := Kd.R_slice HO348.out; subst eo96; obtain ⟨Ao97, co97, eo97⟩ := Kd.R_slice HO351.out; subst eo97; obtain ⟨Ao98, co98, eo98⟩ := Kd.R_slice HO354.out; subst eo98; obtain ⟨Ao99, co99, eo99⟩ := Kd.R_slice HO357.out; subst eo99) | ((with_reducible refine gate_dst (N := 122) rfl ?_); refine Kd.N_lit (Kd.slice 5 (Kd.int .u8)) _ 24 ?hg (N' := 122) ?hd (xs := ([[], y340, y343, y346, y349, y352, y355] : List (List Int))) (inner := [.slice none 0 0, .slice Ao94 y340.length co94, .slice Ao95 y343.length co95, .slice Ao96 y346.length co96, .slice Ao97 y349.length co97, .slice Ao98 y352.length co98, .slice Ao99 y355.length co99]) (ok := (fun k_ => some k_ ≠ (.slice Ao48 y311.length co48 : Value).ownBlock)) (okp := (fun k_ => some k_ ≠ (.slice Ao48 y311.length co48 : Value).ownBlock)) ?hr ?hp (fun _ hk => hk) ((show ∀ k_, w92.heap.size ≤ k_ → (fun k_ => some k_ ≠ (.slice Ao48 y311.length co48 : Value).ownBlock) k_ from fun k_ hk => Kd.fresh' (Kd.N_lt (mN HO_72.out)) k_ hk) _ (Nat.le_refl _)) (Below.refl _ _) (Nat.le_refl _) (by simp) ?_; (case hd => rfl); (case hg => rfl); (case hr => first | (go_simp; done) | (go_simp; rfl)); (case hp => exact (Reps.one (show Kd.FK (Kd.slice 5 (Kd.int .u8)) _ _ [] [.slice none 0 0] from (Kd.FK_slice_mk (Nat.le_refl _) (Kd.F_nil _ _ _))) (Reps.one (show Kd.FK (Kd.slice 5 (Kd.int .u8)) _ _ y340 [.slice Ao94 y340.length co94] from (Kd.FK_slice_mk (Kd.R_reads' (Kd.R_mono (ok' := (fun k_ => some k_ ≠ (.slice Ao48 y311.length co48 : Value).ownBlock)) (Kd.R_apart' (HO342.out) (Kd.N_typed HO_72.out) (by decide)) (fun k_ hk => hk.2))).2.1 (Kd.R_F (by (with_reducible repeat (first | apply Kd.R_alloc | apply Kd.R_drewN | apply Kd.R_drew)); exact (Kd.R_mono (ok' := (fun k_ => some k_ ≠ (.slice Ao48 y311.length co48 : Value).ownBlock)) (Kd.R_apart' (HO342.out) (Kd.N_typed HO_72.out) (by decide)) (fun k_ hk => hk.2)))))) (Reps.one (show Kd.FK (Kd.slice 5 (Kd.int .u8)) _ _ y343 [.slice Ao95 y343.length co95] from (Kd.FK_slice_mk (Kd.R_reads' (Kd.R_mono (ok' := (fun k_ => some k_ ≠ (.slice Ao48 y311.length co48 : Value).ownBlock)) (Kd.R_apart' (HO345.out) (Kd.N_typed HO_72.out) (by decide)) (fun k_ hk => hk.2))).2.1 (Kd.R_F (by (with_reducible repeat (first | apply Kd.R_alloc | apply Kd.R_drewN | apply Kd.R_drew)); exact (Kd.R_mono (ok' := (fun k_ => some k_ ≠ (.slice Ao48 y311.length co48 : Value).ownBlock)) (Kd.R_apart' (HO345.out) (Kd.N_typed HO_72.out) (by decide)) (fun k_ hk => hk.2)))))) (Reps.one (show Kd.FK (Kd.slice 5 (Kd.int .u8)) _ _ y346 [.slice Ao96 y346.length co96] from (Kd.FK_slice_mk (Kd.R_reads' (Kd.R_mono (ok' := (fun k_ => some k_ ≠ (.slice Ao48 y311.length co48 : Value).ownBlock)) (Kd.R_apart' (HO348.out) (Kd.N_typed HO_72.out) (by decide)) (fun k_ hk => hk.2))).2.1 (Kd.R_F (by (with_reducible repeat (first | apply Kd.R_alloc | apply Kd.R_drewN | apply Kd.R_drew)); exact (Kd.R_mono (ok' := (fun k_ => some k_ ≠ (.slice Ao48 y311.length co48 : Value).ownBlock)) (Kd.R_apart' (HO348.out) (Kd.N_typed HO_72.out) (by decide)) (fun k_ hk => hk.2)))))) (Reps.one (show Kd.FK (Kd.slice 5 (Kd.int .u8)) _ _ y349 [.slice Ao97 y349.length co97] from (Kd.FK_slice_mk (Kd.R_reads' (Kd.R_mono (ok' := (fun k_ => some k_ ≠ (.slice Ao48 y311.length co48 : Value).ownBlock)) (Kd.R_apart' (HO351.out) (Kd.N_typed HO_72.out) (by decide)) (fun k_ hk => hk.2))).2.1 (Kd.R_F (by (with_reducible repeat (first | apply Kd.R_alloc | apply Kd.R_drewN | apply Kd.R_drew)); exact (Kd.R_mono (ok' := (fun k_ => some k_ ≠ (.slice Ao48 y311.length co48 : Value).ownBlock)) (Kd.R_apart' (HO351.out) (Kd.N_typed HO_72.out) (by decide)) (fun k_ hk => hk.2)))))) (Reps.one (show Kd.FK (Kd.slice 5 (Kd.int .u8)) _ _ y352 [.slice Ao98 y352.length co98] from (Kd.FK_slice_mk (Kd.R_reads' (Kd.R_mono (ok' := (fun k_ => some k_ ≠ (.slice Ao48 y311.length co48 : Value).ownBlock)) (Kd.R_apart' (HO354.out) (Kd.N_typed HO_72.out) (by decide)) (fun k_ hk => hk.2))).2.1 (Kd.R_F (by (with_reducible repeat (first | apply Kd.R_alloc | apply Kd.R_drewN | apply Kd.R_drew)); exact (Kd.R_mono (ok' := (fun k_ => some k_ ≠ (.slice Ao48 y311.length co48 : Value).ownBlock)) (Kd.R_apart' (HO354.out) (Kd.N_typed HO_72.out) (by decide)) (fun k_ hk => hk.2)))))) (Reps.one (show Kd.FK (Kd.slice 5 (Kd.int .u8)) _ _ y355 [.slice Ao99 y355.length co99] from (Kd.FK_slice_mk (Kd.R_reads' (Kd.R_mono (ok' := (fun k_ => some k_ ≠ (.slice Ao48 y311.length co48 : Value).ownBlock)) (Kd.R_apart' (HO357.out) (Kd.N_typed HO_72.out) (by decide)) (fun k_ hk => hk.2))).2.1 (Kd.R_F (by (with_reducible repeat (first | apply Kd.R_alloc | apply Kd.R_drewN | apply Kd.R_drew)); exact (Kd.R_mono (ok' := (fun k_ => some k_ ≠ (.slice Ao48 y311.length co48 : Value).ownBlock)) (Kd.R_apart' (HO357.out) (Kd.N_typed HO_72.out) (by decide)) (fun k_ hk => hk.2)))))) (Reps.none _ _))))))))); intro v359 w100 ho101 hb hg_ hnew_; clear hg_ hnew_; (first | rw [← Ny358.out] at ho101 | (simp only [Int.reduceToNat] at ho101; rw [← Ny358.out] at ho101)); have n1_ := Aside0.mk (Kd.N_lower ho101 (below_size (mB HB.out))); have n2_ := Aside0.mk (below_step (mB HB.out) hb); clear HO_72; clear HB; clear HO342; clear HO345; clear HO348; clear HO351; clear HO354; clear HO357; have HO360 := n1_; have HB := n2_; clear n1_ n2_; clear hb ho101; obtain ⟨Ao102, co102, eo102⟩ := Kd.N_slice HO360.out; subst eo102))
            go_loopg [124] k2 (fun kq v124 w' => ∃ (x124_3 : Int), v124 = .int .i64 x124_3 ∧ Aside0 (columbariumlaw9_BloomNumbers.l2 kq y358 (y358.length : Int) x124_3 = some r) ∧ Aside0 (kq ≤ k2) ∧ Aside0 (Kd.N (Kd.slice 5 (Kd.int .u8)) 24 w' w.heap.size (fun _ => True) (.slice Ao102 y358.length co102) y358) ∧ Aside0 (Below w.heap.size w w'))
            case atStart => exact ⟨(0), (by first | rfl | (simp; done) | (simp [*]; done)), H', ⟨Nat.le_refl _⟩, ⟨by (with_reducible repeat (first | apply Kd.N_alloc | apply Kd.N_drewN | apply Kd.N_drew)); exact Kd.N_mono HO360.out (fun _ hk => trivial)⟩, ⟨mB HB.out⟩⟩
            case round =>
             clear H'
             try clear c1
             try clear c2
             try clear p2
             try clear c3
             try clear p3
             try clear q3
             try clear hx3
             try clear c4
             try clear c5
             try clear c6
             try clear p6
             try clear c11
             try clear c13
             try clear c16
             try clear c17
             try clear c18
             try clear c19
             try clear c20
             try clear c31
             try clear p31
             try clear q31
             try clear hx31
             try clear c49
             try clear c49b0
             try clear c50
             try clear c51
             try clear c59
             try clear c59b0
             try clear c59b1
             try clear c60
             try clear c60b0
             try clear c60b1
             try clear c64
             try clear c64b0
             try clear c64b1
             try clear c64b2
             try clear p64
             try clear hcz66_0
             try clear hcz66_1
             try clear hcz68_0
             try clear hcz68_1
             try clear hfz66_0
             try clear hfz66_1
             try clear hfz68_0
             try clear hfz68_1
             try clear hx314_0
             try clear hx314_1
             try clear p314
             try clear q314
             obtain ⟨x124_3, rfl, HA, HK3, HO_122, HB⟩ := hrel
             cases gk with
             | zero => exact absurd HA.out (by simp [columbariumlaw9_BloomNumbers.l2])
             | succ k3 =>
              have H := HA.out
              clear HA
              simp only [columbariumlaw9_BloomNumbers.l2] at H
              by_cases c103 : x124_3 < (y358.length : Int)
              ·rw [if_pos c103] at H
               have c103b0 : decide (x124_3 < (y358.length : Int)) = true := decide_eq_true c103
               clear c103
               by_cases c104 : 0 ≤ x124_3
               ·rw [if_pos c104] at H
                have c104b0 : decide (0 ≤ x124_3) = true := decide_eq_true c104
                clear c104
                by_cases c105 : x124_3 < (y358.length : Int)
                ·rw [if_pos c105] at H
                 have c105b0 : decide (x124_3 < (y358.length : Int)) = true := decide_eq_true c105
                 clear c105
                 replace H := Option.bind_eq_some_iff.mp H
                 obtain ⟨⟨t370, t371, t374, t375⟩, A1060, H⟩ := H
                 replace H : ((columbariumref9_Decode.f k3 (rd_L4 y358 x124_3) 0).bind fun bt377 => (if t370 = bt377.1 then (if (strOfNums t371).toList = (strOfNums bt377.2.1).toList then (if t374 = bt377.2.2.1 then (if t375 = bt377.2.2.2 then (columbariumlaw9_BloomNumbers.l2 k3 y358 (y358.length : Int) (wrap64 (x124_3 + 1))) else (some false)) else (some false)) else (some false)) else (some false))) = some r := H
                 have A106 := Aside0.mk A1060
                 clear A1060
                 replace H := Option.bind_eq_some_iff.mp H
                 obtain ⟨⟨t377, t378, t381, t382⟩, A1070, H⟩ := H
                 replace H : (if t370 = t377 then (if (strOfNums t371).toList = (strOfNums t378).toList then (if t374 = t381 then (if t375 = t382 then (columbariumlaw9_BloomNumbers.l2 k3 y358 (y358.length : Int) (wrap64 (x124_3 + 1))) else (some false)) else (some false)) else (some false)) else (some false)) = some r := H
                 have A107 := Aside0.mk A1070
                 clear A1070
                 by_cases c108 : t370 = t377
                 ·rw [if_pos c108] at H
                  have c108b0 : (t370 == t377) = true := beq_iff_eq.mpr c108
                  have c108b1 : (t370 != t377) = false := bne_eq_false_iff_eq.mpr c108
                  clear c108
                  by_cases c109 : (strOfNums t371).toList = (strOfNums t378).toList
                  ·rw [if_pos c109] at H
                   have c109b0 : ((strOfNums t371).toList == (strOfNums t378).toList) = true := beq_iff_eq.mpr c109
                   have c109b1 : ((strOfNums t371).toList != (strOfNums t378).toList) = false := bne_eq_false_iff_eq.mpr c109
                   clear c109
                   by_cases c110 : t374 = t381
                   ·rw [if_pos c110] at H
                    have c110b0 : (t374 == t381) = true := beq_iff_eq.mpr c110
                    have c110b1 : (t374 != t381) = false := bne_eq_false_iff_eq.mpr c110
                    clear c110
                    by_cases c111 : t375 = t382
                    ·rw [if_pos c111] at H
                     have c111b0 : (t375 == t382) = true := beq_iff_eq.mpr c111
                     have c111b1 : (t375 != t382) = false := bne_eq_false_iff_eq.mpr c111
                     clear c111
                     have H' := Aside0.mk H
                     clear H
                     have p369 : 0 ≤ (x124_3 : Int) := of_decide_eq_true (by first | (with_reducible assumption) | assumption)
                     have q369 : x124_3 < (y358.length : Int) := of_decide_eq_true (by first | (with_reducible assumption) | assumption)
                     obtain ⟨ad369, A369_0, c369_0, e369, hx369_0, hl369_0, hi369_0⟩ := at_L4 (Kd.N_reads' HO_122.out).2.2 x124_3 p369 q369
                     cases e369
                     obtain ⟨ce369, hce369, hMe369, hcc369⟩ := Kd.N_get HO_122.out [] x124_3 p369 (by first | exact q369 | exact of_decide_eq_true (by first | (with_reducible assumption) | assumption) | (have e_ := (Kd.N_reads' HO_122.out).1; omega))
                     obtain ⟨ua369_0, uc369_0, rfl, ul369_0, ge369_0⟩ := Kd.FK_slice_open hMe369
                     have hv369_0 := hcc369 0 _ rfl
                     rw [Nat.add_zero, show ((Kd.slice 5 (Kd.int .u8))).sz = 1 from rfl, Nat.mul_one] at hv369_0
                     replace hv369_0 := Option.some.inj (hv369_0.symm.trans hx369_0)
                     injection hv369_0 with hva_ hvn_ hvc_
                     rw [hva_] at ge369_0
                     rw [hvc_] at ul369_0
                     have HL369_0 := Aside0.mk (show Kd.V (Kd.int .u8) 5 _ w.heap.size _ _ (rd_L4 y358 x124_3) from Kd.V_mk ul369_0 ge369_0)
                     clear hva_ hvn_ hvc_ ge369_0 ul369_0
                     clear hcc369 hce369
                     have HR369_0 := Aside0.mk hi369_0
                     have HC369_0 := Aside0.mk hl369_0
                     clear hi369_0 hl369_0
                     replace p369 := eq_true p369
                     replace q369 := eq_true q369
                     go_wp2_with (first | ((with_reducible refine gate_callee (f := 21) rfl ?_); refine goesL_ (some 130) rfl rfl Try.func21 (by kernel_rfl) rfl #[.slice A369_0 (rd_L4 y358 x124_3).length c369_0, .int .i64 0] rfl (by (try simp only [List.map_toArray, List.map_cons, List.map_nil]); first | done | rfl | (simp only [List.length_drop, List.length_take]; rfl)) ?_; (with_reducible refine (bloom_Decode.calls k3 _ _ (rd_L4 y358 x124_3) 0 t370 t371 t374 t375 _ ?side1 ?side2 A106.out).mono ?_); (case side1 => repeat (first | exact (by repeat (first | (with_reducible exact HR369_0.out) | (with_reducible refine Kd.C_alloc ?_ _) | (with_reducible refine Kd.C_drewN ?_ _) | (with_reducible refine Kd.C_drew ?_) | exact HR369_0.out)) | (with_reducible refine Kd.C_alloc ?_ _) | (with_reducible refine Kd.C_drewN ?_ _) | (with_reducible refine Kd.C_drew ?_))); (case side2 => first | exact HC369_0.out | exact Kd.V_mono HC369_0.out (fun k_ hk_ => by grind)); rintro e w112 ⟨v372, rfl, ho0, hb⟩; refine ⟨_, rfl, ?_⟩; have n0_ := Aside0.mk (Kd.N_elder' (mN HO_122.out) (Kd.R_base ho0) hb); have n1_ := Aside0.mk (Kd.V_elder' (mV HL369_0.out) (Kd.R_base ho0) hb); have n2_ := Aside0.mk (Kd.R_lower ho0 (below_size (mB HB.out))); have n3_ := Aside0.mk (Kd.C_below (by repeat (first | (with_reducible exact HR369_0.out) | (with_reducible refine Kd.C_alloc ?_ _) | (with_reducible refine Kd.C_drewN ?_ _) | (with_reducible refine Kd.C_drew ?_) | exact HR369_0.out)) hb); have n4_ := Aside0.mk (below_step (mB HB.out) hb); clear HO_122; clear HL369_0; clear HR369_0; clear HB; have HO_122 := n0_; have HL369_0 := n1_; have HO373 := n2_; have HR369_0 := n3_; have HB := n4_; clear n0_ n1_ n2_ n3_ n4_; (try clear hb); (try clear hb2); (try clear hk); (try clear hi); (try clear ho0)) | ((with_reducible refine gate_dst (N := 13) rfl ?_); refine box_event ?hg (N := 13) ?hd (cs := #[.int .i64 0, .slice none 0 0]) (t := 26) ?hr ?_; (case hd => rfl); (case hg => rfl); (case hr => first | (go_simp; done) | (go_simp; rfl)); intro gb376 hg w113 hbox hb; have n0_ := Aside0.mk (Kd.N_below (Kd.N_elderB (mN HO_122.out) gb376 (Nat.le_of_eq hg.symm)) hb); have n1_ := Aside0.mk (Kd.V_below (Kd.V_elderB (mV HL369_0.out) gb376 (Nat.le_of_eq hg.symm)) hb); have n2_ := Aside0.mk (Kd.R_below (mR HO373.out) hb); have n3_ := Aside0.mk (Kd.C_below (by repeat (first | (with_reducible exact HR369_0.out) | (with_reducible refine Kd.C_alloc ?_ _) | (with_reducible refine Kd.C_drewN ?_ _) | (with_reducible refine Kd.C_drew ?_) | exact HR369_0.out)) hb); have n4_ := Aside0.mk (below_step (mB HB.out) hb); have n5_ := Aside0.mk (hbox); have n6_ := Aside0.mk ((by rw [hg]; exact (below_size (mB HB.out)) : w.heap.size ≤ gb376)); have n7_ := n6_; clear HO_122; clear HL369_0; clear HO373; clear HR369_0; clear HB; have HO_122 := n0_; have HL369_0 := n1_; have HO373 := n2_; have HR369_0 := n3_; have HB := n4_; have BK376 := n5_; have GW376 := n6_; have GE376 := n7_; clear n0_ n1_ n2_ n3_ n4_ n5_ n6_ n7_; clear hb hbox hg; obtain ⟨hcz114_0, hcz114_1, hfz114_0, hfz114_1⟩ := cells_2 BK376.out; obtain ⟨Ao115, co115, eo115⟩ := Kd.R_slice HO373.out; subst eo115) | ((with_reducible refine gate_callee (f := 22) rfl ?_); refine goesL_ (some 136) rfl rfl Try.func22 (by kernel_rfl) rfl #[.slice A369_0 (rd_L4 y358 x124_3).length c369_0, .int .i64 0] rfl (by (try simp only [List.map_toArray, List.map_cons, List.map_nil]); first | done | rfl | (simp only [List.length_drop, List.length_take]; rfl)) ?_; (with_reducible refine (columbariumref9_Decode.calls k3 _ _ (rd_L4 y358 x124_3) 0 t377 t378 t381 t382 _ ?side1 ?side2 A107.out).mono ?_); (case side1 => repeat (first | exact ((Kd.V_reads' (by (with_reducible repeat (first | apply Kd.V_alloc | apply Kd.V_drewN | apply Kd.V_drew)); exact (Kd.V_mono (Kd.V_far (p := ⟨gb376, 1, none⟩) (Kd.V_far (p := ⟨gb376, 0, none⟩) (Kd.V_mono HL369_0.out (fun k_ hk => (⟨hk, hk.2⟩ : _ ∧ k_ ≠ gb376))) (fun _ hk => hk.2) (.int .i64 t370)) (fun _ hk => hk.2) (.slice Ao115 t371.length co115)) (fun _ h_ => h_.1)))).2.2) | (with_reducible refine Kd.C_alloc ?_ _) | (with_reducible refine Kd.C_drewN ?_ _) | (with_reducible refine Kd.C_drew ?_))); (case side2 => first | exact HC369_0.out | exact Kd.V_mono HC369_0.out (fun k_ hk_ => by grind)); rintro e w116 ⟨v379, rfl, ho0, hb⟩; refine ⟨_, rfl, ?_⟩; have n0_ := Aside0.mk (Kd.N_elder' (by (with_reducible repeat (first | apply Kd.N_alloc | apply Kd.N_drewN | apply Kd.N_drew)); exact (Kd.N_mono (Kd.N_far (p := ⟨gb376, 1, none⟩) (Kd.N_far (p := ⟨gb376, 0, none⟩) (Kd.N_mono HO_122.out (fun k_ hk => (⟨hk, hk.2⟩ : _ ∧ k_ ≠ gb376))) (fun _ hk => hk.2) (.int .i64 t370)) (fun _ hk => hk.2) (.slice Ao115 t371.length co115)) (fun _ h_ => h_.1))) (Kd.R_base ho0) hb); have n1_ := Aside0.mk (Kd.V_elder' (by (with_reducible repeat (first | apply Kd.V_alloc | apply Kd.V_drewN | apply Kd.V_drew)); exact (Kd.V_mono (Kd.V_far (p := ⟨gb376, 1, none⟩) (Kd.V_far (p := ⟨gb376, 0, none⟩) (Kd.V_mono HL369_0.out (fun k_ hk => (⟨hk, hk.2⟩ : _ ∧ k_ ≠ gb376))) (fun _ hk => hk.2) (.int .i64 t370)) (fun _ hk => hk.2) (.slice Ao115 t371.length co115)) (fun _ h_ => h_.1))) (Kd.R_base ho0) hb); have n2_ := Aside0.mk (Kd.R_elder' (by (with_reducible repeat (first | apply Kd.R_alloc | apply Kd.R_drewN | apply Kd.R_drew)); exact (Kd.R_mono (Kd.R_far (p := ⟨gb376, 1, none⟩) (Kd.R_far (p := ⟨gb376, 0, none⟩) (Kd.R_types HO373.out BK376.out (by decide)) (fun _ hk => hk.2) (.int .i64 t370)) (fun _ hk => hk.2) (.slice Ao115 t371.length co115)) (fun _ h_ => h_.1))) (Kd.R_base ho0) hb); have n3_ := Aside0.mk (Kd.R_lower (Kd.R_new' ho0 (Kd.R_lt (by (with_reducible repeat (first | apply Kd.R_alloc | apply Kd.R_drewN | apply Kd.R_drew)); exact (Kd.R_mono (Kd.R_far (p := ⟨gb376, 1, none⟩) (Kd.R_far (p := ⟨gb376, 0, none⟩) (Kd.R_types HO373.out BK376.out (by decide)) (fun _ hk => hk.2) (.int .i64 t370)) (fun _ hk => hk.2) (.slice Ao115 t371.length co115)) (fun _ h_ => h_.1))))) (below_size (by repeat (first | (with_reducible first | exact HB.out | apply below_alloc | apply pw_below_drewN | apply below_drew1 | refine below_set ?_ GE376.out) | exact HB.out)))); have n4_ := Aside0.mk (Kd.C_below ((Kd.V_reads' (by (with_reducible repeat (first | apply Kd.V_alloc | apply Kd.V_drewN | apply Kd.V_drew)); exact (Kd.V_mono (Kd.V_far (p := ⟨gb376, 1, none⟩) (Kd.V_far (p := ⟨gb376, 0, none⟩) (Kd.V_mono HL369_0.out (fun k_ hk => (⟨hk, hk.2⟩ : _ ∧ k_ ≠ gb376))) (fun _ hk => hk.2) (.int .i64 t370)) (fun _ hk => hk.2) (.slice Ao115 t371.length co115)) (fun _ h_ => h_.1)))).2.2) hb); have n5_ := Aside0.mk (blk_below (g := gb376) (o := .cells #[.int .i64 t370, .slice Ao115 t371.length co115] 26 (0, 0)) (by (with_reducible repeat (first | refine blk_drewN ?_ _ | refine blk_drew ?_ | refine blk_alloc ?_ _)); refine blk_put (cs := #[.int .i64 t370, .slice none 0 0]) ?_ 1 _ rfl; (with_reducible repeat (first | refine blk_drewN ?_ _ | refine blk_drew ?_ | refine blk_alloc ?_ _)); refine blk_put (cs := #[.int .i64 0, .slice none 0 0]) ?_ 0 _ rfl; (with_reducible repeat (first | refine blk_drewN ?_ _ | refine blk_drew ?_ | refine blk_alloc ?_ _)); exact BK376.out) hb); have n6_ := Aside0.mk (below_step (by repeat (first | (with_reducible first | exact HB.out | apply below_alloc | apply pw_below_drewN | apply below_drew1 | refine below_set ?_ GE376.out) | exact HB.out)) hb); clear HO_122; clear HL369_0; clear HO373; clear HR369_0; clear BK376; clear HB; have HO_122 := n0_; have HL369_0 := n1_; have HO373 := n2_; have HO380 := n3_; have HR369_0 := n4_; have BK376 := n5_; have HB := n6_; clear n0_ n1_ n2_ n3_ n4_ n5_ n6_; (try clear hb); (try clear hb2); (try clear hk); (try clear hi); (try clear ho0)) | ((with_reducible refine gate_dst (N := 16) rfl ?_); refine box_event ?hg (N := 16) ?hd (cs := #[.int .i64 0, .slice none 0 0]) (t := 36) ?hr ?_; (case hd => rfl); (case hg => rfl); (case hr => first | (go_simp; done) | (go_simp; rfl)); intro gb383 hg w117 hbox hb; have n0_ := Aside0.mk (Kd.N_below (Kd.N_elderB (mN HO_122.out) gb383 (Nat.le_of_eq hg.symm)) hb); have n1_ := Aside0.mk (Kd.V_below (Kd.V_elderB (mV HL369_0.out) gb383 (Nat.le_of_eq hg.symm)) hb); have n2_ := Aside0.mk (Kd.R_below (mR HO373.out) hb); have n3_ := Aside0.mk (Kd.R_below (mR HO380.out) hb); have n4_ := Aside0.mk (Kd.C_below (by repeat (first | (with_reducible exact HR369_0.out) | (with_reducible refine Kd.C_alloc ?_ _) | (with_reducible refine Kd.C_drewN ?_ _) | (with_reducible refine Kd.C_drew ?_) | exact HR369_0.out)) hb); have n5_ := Aside0.mk (blk_below (g := gb376) (o := .cells #[.int .i64 t370, .slice Ao115 t371.length co115] 26 (0, 0)) (mK BK376.out) hb); have n6_ := Aside0.mk (below_step (by repeat (first | (with_reducible first | exact HB.out | apply below_alloc | apply pw_below_drewN | apply below_drew1 | refine below_set ?_ GE376.out) | exact HB.out)) hb); have n7_ := Aside0.mk (hbox); have n8_ := Aside0.mk ((by rw [hg]; exact (below_size (by repeat (first | (with_reducible first | exact HB.out | apply below_alloc | apply pw_below_drewN | apply below_drew1 | refine below_set ?_ GE376.out) | exact HB.out))) : w.heap.size ≤ gb383)); have n9_ := n8_; have n10_ := Aside0.mk ((by rw [hg]; exact Nat.ne_of_lt (blk_lt (g := gb376) (o := .cells #[.int .i64 t370, .slice Ao115 t371.length co115] 26 (0, 0)) (mK BK376.out)) : gb376 ≠ gb383)); have n11_ := Aside0.mk ((by rw [hg]; exact Nat.ne_of_gt (blk_lt (g := gb376) (o := .cells #[.int .i64 t370, .slice Ao115 t371.length co115] 26 (0, 0)) (mK BK376.out)) : gb383 ≠ gb376)); clear HO_122; clear HL369_0; clear HO373; clear HO380; clear HR369_0; clear BK376; clear HB; have HO_122 := n0_; have HL369_0 := n1_; have HO373 := n2_; have HO380 := n3_; have HR369_0 := n4_; have BK376 := n5_; have HB := n6_; have BK383 := n7_; have GW383 := n8_; have GE383 := n9_; have NB376_383 := n10_; have NB383_376 := n11_; clear n0_ n1_ n2_ n3_ n4_ n5_ n6_ n7_ n8_ n9_ n10_ n11_; clear hb hbox hg; have hnb118 := NB383_376.out; have hnc118 := NB376_383.out; obtain ⟨hcz119_0, hcz119_1, hfz119_0, hfz119_1⟩ := cells_2 BK383.out; obtain ⟨Ao120, co120, eo120⟩ := Kd.R_slice HO380.out; subst eo120; obtain ⟨hcz121_0, hcz121_1, hfz121_0, hfz121_1⟩ := cells_2 BK376.out; have hcv122 := own_string (P := Try.prog) Try.underlying24 Try.underlying5 Try.underlying9 (Kd.own_of_R ((Kd.R_far (p := ⟨gb383, 1, none⟩) (Kd.R_far (p := ⟨gb383, 0, none⟩) (Kd.R_types HO373.out BK383.out (by decide)) (fun _ hk => hk.2) (.int .i64 t377)) (fun _ hk => hk.2) (.slice Ao120 t378.length co120)))); have hcv123 := own_string (P := Try.prog) Try.underlying24 Try.underlying5 Try.underlying9 (Kd.own_of_R ((Kd.R_far (p := ⟨gb383, 1, none⟩) (Kd.R_far (p := ⟨gb383, 0, none⟩) (Kd.R_types HO380.out BK383.out (by decide)) (fun _ hk => hk.2) (.int .i64 t377)) (fun _ hk => hk.2) (.slice Ao120 t378.length co120))))))
                     go_roundg k3
                     case measure => have := HK1.out; have := HK2.out; have := HK3.out; omega
                     case rel => exact ⟨(wrap64 (x124_3 + 1)), (by first | rfl | (simp; done) | (simp [*]; done)), H', ⟨by have := HK1.out; have := HK2.out; have := HK3.out; omega⟩, ⟨by (with_reducible repeat (first | apply Kd.N_alloc | apply Kd.N_drewN | apply Kd.N_drew)); exact Kd.N_mono (Kd.N_far (p := ⟨gb383, 1, none⟩) (Kd.N_far (p := ⟨gb383, 0, none⟩) (Kd.N_mono HO_122.out (fun k_ hk => (⟨hk, hk.2⟩ : _ ∧ k_ ≠ gb383))) (fun _ hk => hk.2) (.int .i64 t377)) (fun _ hk => hk.2) (.slice Ao120 t378.length co120)) (fun _ hk => trivial)⟩, ⟨by repeat (first | (with_reducible first | exact HB.out | apply below_alloc | apply pw_below_drewN | apply below_drew1 | refine below_set ?_ GE376.out | refine below_set ?_ GE383.out) | exact HB.out)⟩⟩
                    ·rw [if_neg c111] at H
                     have c111b0 : (t375 == t382) = false := beq_eq_false_iff_ne.mpr c111
                     have c111b1 : (t375 != t382) = true := bne_iff_ne.mpr c111
                     exact absurd ((Option.some.inj H).trans hrt_.out) (by decide)
                   ·rw [if_neg c110] at H
                    have c110b0 : (t374 == t381) = false := beq_eq_false_iff_ne.mpr c110
                    have c110b1 : (t374 != t381) = true := bne_iff_ne.mpr c110
                    exact absurd ((Option.some.inj H).trans hrt_.out) (by decide)
                  ·rw [if_neg c109] at H
                   have c109b0 : ((strOfNums t371).toList == (strOfNums t378).toList) = false := beq_eq_false_iff_ne.mpr c109
                   have c109b1 : ((strOfNums t371).toList != (strOfNums t378).toList) = true := bne_iff_ne.mpr c109
                   exact absurd ((Option.some.inj H).trans hrt_.out) (by decide)
                 ·rw [if_neg c108] at H
                  have c108b0 : (t370 == t377) = false := beq_eq_false_iff_ne.mpr c108
                  have c108b1 : (t370 != t377) = true := bne_iff_ne.mpr c108
                  exact absurd ((Option.some.inj H).trans hrt_.out) (by decide)
                ·rw [if_neg c105] at H
                 exact absurd H (by simp)
               ·rw [if_neg c104] at H
                exact absurd H (by simp)
              ·rw [if_neg c103] at H
               have c103b0 : decide (x124_3 < (y358.length : Int)) = false := decide_eq_false c103
               clear c103
               replace H := Option.bind_eq_some_iff.mp H
               obtain ⟨⟨t361, t362, t365, t366⟩, A1240, H⟩ := H
               replace H : (if t366 = 1 then ((columbariumlaw9_known.f k3).bind fun t368 => (some t368)) else (some false)) = some r := H
               have A124 := Aside0.mk A1240
               clear A1240
               by_cases c125 : t366 = 1
               ·rw [if_pos c125] at H
                have c125b0 : (t366 == 1) = true := beq_iff_eq.mpr c125
                have c125b1 : (t366 != 1) = false := bne_eq_false_iff_eq.mpr c125
                clear c125
                replace H := Option.bind_eq_some_iff.mp H
                obtain ⟨t368, A1260, H⟩ := H
                replace H : (some t368) = some r := H
                have A126 := Aside0.mk A1260
                clear A1260
                obtain rfl := Option.some.inj H
                go_wp2_with (first | ((with_reducible refine gate_callee (f := 21) rfl ?_); refine goesL_ (some 166) rfl rfl Try.func21 (by kernel_rfl) rfl #[.slice none 0 0, .int .i64 (-1)] rfl (by (try simp only [List.map_toArray, List.map_cons, List.map_nil]); first | done | rfl | (simp only [List.length_drop, List.length_take]; rfl)) ?_; (refine (bloom_Decode.calls k3 _ _ ([] : List Int) (-1) t361 t362 t365 t366 _ ?side1 ?side2 A124.out).mono ?_); (case side1 => exact Kd.C_nil _ _); (case side2 => exact Nat.le_refl _); rintro e w127 ⟨v363, rfl, ho0, hb⟩; refine ⟨_, rfl, ?_⟩; have n0_ := Aside0.mk (Kd.N_elder' (mN HO_122.out) (Kd.R_base ho0) hb); have n1_ := Aside0.mk (Kd.R_lower ho0 (below_size (mB HB.out))); have n2_ := Aside0.mk (below_step (mB HB.out) hb); clear HO_122; clear HB; have HO_122 := n0_; have HO364 := n1_; have HB := n2_; clear n0_ n1_ n2_; (try clear hb); (try clear hb2); (try clear hk); (try clear hi); (try clear ho0)) | ((with_reducible refine gate_dst (N := 19) rfl ?_); refine box_event ?hg (N := 19) ?hd (cs := #[.int .i64 0, .slice none 0 0]) (t := 26) ?hr ?_; (case hd => rfl); (case hg => rfl); (case hr => first | (go_simp; done) | (go_simp; rfl)); intro gb367 hg w128 hbox hb; have n0_ := Aside0.mk (Kd.N_below (Kd.N_elderB (mN HO_122.out) gb367 (Nat.le_of_eq hg.symm)) hb); have n1_ := Aside0.mk (Kd.R_below (mR HO364.out) hb); have n2_ := Aside0.mk (below_step (mB HB.out) hb); have n3_ := Aside0.mk (hbox); have n4_ := Aside0.mk ((by rw [hg]; exact (below_size (mB HB.out)) : w.heap.size ≤ gb367)); have n5_ := n4_; clear HO_122; clear HO364; clear HB; have HO_122 := n0_; have HO364 := n1_; have HB := n2_; have BK367 := n3_; have GW367 := n4_; have GE367 := n5_; clear n0_ n1_ n2_ n3_ n4_ n5_; clear hb hbox hg; obtain ⟨hcz129_0, hcz129_1, hfz129_0, hfz129_1⟩ := cells_2 BK367.out; obtain ⟨Ao130, co130, eo130⟩ := Kd.R_slice HO364.out; subst eo130) | (go_at_call 14; (with_reducible refine (columbariumlaw9_known.calls k3  t368 _ A126.out).mono ?_); rintro e w131 ⟨rfl, hb⟩; have n0_ := Aside0.mk (Kd.N_below (by (with_reducible repeat (first | apply Kd.N_alloc | apply Kd.N_drewN | apply Kd.N_drew)); exact (Kd.N_mono (Kd.N_far (p := ⟨gb367, 1, none⟩) (Kd.N_far (p := ⟨gb367, 0, none⟩) (Kd.N_mono HO_122.out (fun k_ hk => (⟨hk, hk.2⟩ : _ ∧ k_ ≠ gb367))) (fun _ hk => hk.2) (.int .i64 t361)) (fun _ hk => hk.2) (.slice Ao130 t362.length co130)) (fun _ h_ => h_.1))) hb); have n1_ := Aside0.mk (Kd.R_below (by (with_reducible repeat (first | apply Kd.R_alloc | apply Kd.R_drewN | apply Kd.R_drew)); exact (Kd.R_mono (Kd.R_far (p := ⟨gb367, 1, none⟩) (Kd.R_far (p := ⟨gb367, 0, none⟩) (Kd.R_types HO364.out BK367.out (by decide)) (fun _ hk => hk.2) (.int .i64 t361)) (fun _ hk => hk.2) (.slice Ao130 t362.length co130)) (fun _ h_ => h_.1))) hb); have n2_ := Aside0.mk (blk_below (g := gb367) (o := .cells #[.int .i64 t361, .slice Ao130 t362.length co130] 26 (0, 0)) (by (with_reducible repeat (first | refine blk_drewN ?_ _ | refine blk_drew ?_ | refine blk_alloc ?_ _)); refine blk_put (cs := #[.int .i64 t361, .slice none 0 0]) ?_ 1 _ rfl; (with_reducible repeat (first | refine blk_drewN ?_ _ | refine blk_drew ?_ | refine blk_alloc ?_ _)); refine blk_put (cs := #[.int .i64 0, .slice none 0 0]) ?_ 0 _ rfl; (with_reducible repeat (first | refine blk_drewN ?_ _ | refine blk_drew ?_ | refine blk_alloc ?_ _)); exact BK367.out) hb); have n3_ := Aside0.mk (below_step (by repeat (first | (with_reducible first | exact HB.out | apply below_alloc | apply pw_below_drewN | apply below_drew1 | refine below_set ?_ GE367.out) | exact HB.out)) hb); clear HO_122; clear HO364; clear BK367; clear HB; have HO_122 := n0_; have HO364 := n1_; have BK367 := n2_; have HB := n3_; clear n0_ n1_ n2_ n3_; (try clear hb); (try clear hb2); (try clear hk); (try clear hi)))
                go_ret
                exact ⟨by first | rfl | (simp [errW_none, errW_some] <;> rfl) | (simp [*, errW_none, errW_some] <;> rfl), by repeat (first | (with_reducible first | exact HB.out | apply below_alloc | apply pw_below_drewN | apply below_drew1 | refine below_set ?_ GE367.out) | exact HB.out)⟩
               ·rw [if_neg c125] at H
                have c125b0 : (t366 == 1) = false := beq_eq_false_iff_ne.mpr c125
                have c125b1 : (t366 != 1) = true := bne_iff_ne.mpr c125
                exact absurd ((Option.some.inj H).trans hrt_.out) (by decide)
        ·rw [if_neg c27] at H
         exact absurd H (by simp)
       ·rw [if_neg c26] at H
        exact absurd H (by simp)
      ·rw [if_neg c25] at H
       exact absurd H (by simp)
     ·rw [if_neg c24] at H
      exact absurd H (by simp)
    ·rw [if_neg c23] at H
     exact absurd H (by simp)

/-- THE ONE PURE STATEMENT of columbariumlaw9_BloomNumbers: yours. -/
def columbariumlaw9_BloomNumbers.Pure : Prop := ∃ k, columbariumlaw9_BloomNumbers.f k  = some true
theorem columbariumlaw9_BloomNumbers.walk (P : columbariumlaw9_BloomNumbers.Pure)  (w : World)  :
  Calls Try.prog 6 #[] w fun e w' => e = .returned (.bool true) ∧ Below w.heap.size w w' := by
 obtain ⟨k, h⟩ := P  
 refine (columbariumlaw9_BloomNumbers.calls k  true w ⟨rfl⟩ h).mono ?_
 rintro e w' ⟨rfl, hd⟩
 exact ⟨rfl, hd⟩

end Go.Proofs.Ytifcocmmapgebaa.QBloomNumbers
