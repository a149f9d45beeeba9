-- Written by a program of this session (wip/myprint.py): the machine's side of a law
import Derived.Test.YtifcocmmapgebaaQBloomTellsx0
import Derived.Test.YtifcocmmapgebaaQBloomTellsx1
import Derived.Test.YtifcocmmapgebaaQBloomTellsx2
import Derived.Test.YtifcocmmapgebaaQBloomTellsx3
import Derived.Test.YtifcocmmapgebaaQBloomTellsx4
import Derived.Test.YtifcocmmapgebaaQBloomTellsx5
import Derived.Test.YtifcocmmapgebaaQBloomTellsx6
import Derived.Test.YtifcocmmapgebaaQBloomTellsx8
namespace Go.Proofs.Ytifcocmmapgebaa.QBloomTells
open Go.RowKit Go.Proofs.YtifcocmmapgebaaW.PrintWords Go.Proofs.YtifcocmmapgebaaW.PrintLast Go.Proofs.YtifcocmmapgebaaW.PrintMore
attribute [local go_sem] max2_int min2_int max_two min_two max_three min_three max_four min_four   -- for this text's walks alone
set_option linter.unusedVariables false
set_option linter.unusedSimpArgs false

/-! ### columbariumlaw9_BloomTells: function 7 -/
mutual
def columbariumlaw9_BloomTells.j0 : Nat → List ByteArray → ByteArray → List Int → Int → Bool → Int → List Int → Option (Bool)
 | 0, _, _, _, _, _, _, _ => none
 | k + 1, x0, x1, x3, x4, x35, x289000, x289001 => if x35 = true then ((columbariumlaw9_known.f k).bind fun t292 => (some t292)) else ((bloom_Build.f k x0).bind fun bt293 => ((columbariumref9_Build.f k x0).bind fun bt298 => (if bt293.1 = bt298.1 then (columbariumlaw9_BloomTells.j1 k x1 x3 x4 ((strOfNums bt293.2).toList != (strOfNums bt298.2).toList) x289000 x289001 bt293.1 bt293.2) else (columbariumlaw9_BloomTells.j1 k x1 x3 x4 true x289000 x289001 bt293.1 bt293.2))))
def columbariumlaw9_BloomTells.j1 : Nat → ByteArray → List Int → Int → Bool → Int → List Int → Int → List Int → Option (Bool)
 | 0, _, _, _, _, _, _, _, _ => none
 | k + 1, x1, x3, x4, x54, x289000, x289001, x298000, x298001 => if x54 = true then (some false) else ((some (([(⟨x289000, x289001⟩ : S26), (⟨x298000, x298001⟩ : S26)] : List (S26)) : List (S26))).bind fun y303 => (columbariumlaw9_BloomTells.l0 k x1 x3 x4 y303 (y303.length : Int) 0))
def columbariumlaw9_BloomTells.l0 : Nat → ByteArray → List Int → Int → List (S26) → Int → Int → Option (Bool)
 | 0, _, _, _, _, _, _ => none
 | k + 1, x1, x3, x4, x57, x58, x59 => if x59 < x58 then (if 0 ≤ x59 then (if x59 < (x57.length : Int) then ((bloom_Encode.f k ((rd_T26 x57 x59).f0) ((rd_T26 x57 x59).f1)).bind fun bt323 => ((columbariumlaw9_in.f ((rd_T26 x57 x59).f0) ((rd_T26 x57 x59).f1)).bind fun bt327 => ((columbariumref9_Encode.f k bt327.1 bt327.2).bind fun bt331 => ((bloom_May.f k ((rd_T26 x57 x59).f0) ((rd_T26 x57 x59).f1) x1).bind fun t335 => ((columbariumlaw9_in.f ((rd_T26 x57 x59).f0) ((rd_T26 x57 x59).f1)).bind fun bt336 => ((columbariumref9_May.f k bt336.1 bt336.2 x1).bind fun t340 => (if (t335 != t340) = true then (some false) else ((bloom_Right.f ((rd_T26 x57 x59).f0) ((rd_T26 x57 x59).f1)).bind fun t341 => ((columbariumlaw9_in.f ((rd_T26 x57 x59).f0) ((rd_T26 x57 x59).f1)).bind fun bt342 => ((columbariumref9_Right.f k bt342.1 bt342.2).bind fun t346 => (if (t341 != t346) = true then (some false) else (if (strOfNums bt323.1).toList = (strOfNums bt331.1).toList then (if bt323.2 = bt331.2 then ((some (([] : List Int) : List Int)).bind fun y347 => (if y347.length + x3.length < 141836999983104 then ((some (y347 ++ x3 : List Int)).bind fun y350 => (if y350.length + bt331.1.length < 141836999983104 then (columbariumlaw9_BloomTells.l0 k x1 (y350 ++ bt331.1) x4 x57 x58 (wrap64 (x59 + 1))) else (none))) else (none))) else (some false)) else (some false))))))))))))) else (none)) else (none)) else ((bloom_Decode.f k x3 x4).bind fun bt306 => ((columbariumref9_Decode.f k x3 x4).bind fun bt313 => (if bt306.1 = bt313.1 then (if (strOfNums bt306.2.1).toList = (strOfNums bt313.2.1).toList then (if bt306.2.2.1 = bt313.2.2.1 then (if bt306.2.2.2 = bt313.2.2.2 then ((columbariumlaw9_known.f k).bind fun t320 => (some t320)) else (some false)) else (some false)) else (some false)) else (some false))))
end
def columbariumlaw9_BloomTells.f (k : Nat) (l0 : List ByteArray) (a1 : ByteArray) (a2_0 : Int) (l2_1 : List Int) (l3 : List Int) (a4 : Int) : Option (Bool) := (columbariumlaw9_few.f l0).bind fun t289 => (if (l2_1.length : Int) > 9000 then (columbariumlaw9_BloomTells.j0 k t289 a1 l3 a4 true a2_0 l2_1) else (columbariumlaw9_BloomTells.j0 k t289 a1 l3 a4 (decide ((a1.size : Int) > 300)) a2_0 l2_1))
theorem columbariumlaw9_BloomTells.mono_l : ∀ k, (∀ y0 y1 y2 y3 y4 y5 y6, LeO (columbariumlaw9_BloomTells.j0 k y0 y1 y2 y3 y4 y5 y6) (columbariumlaw9_BloomTells.j0 (k + 1) y0 y1 y2 y3 y4 y5 y6)) ∧ (∀ y0 y1 y2 y3 y4 y5 y6 y7, LeO (columbariumlaw9_BloomTells.j1 k y0 y1 y2 y3 y4 y5 y6 y7) (columbariumlaw9_BloomTells.j1 (k + 1) y0 y1 y2 y3 y4 y5 y6 y7)) ∧ (∀ y0 y1 y2 y3 y4 y5, LeO (columbariumlaw9_BloomTells.l0 k y0 y1 y2 y3 y4 y5) (columbariumlaw9_BloomTells.l0 (k + 1) y0 y1 y2 y3 y4 y5))
 | 0 => ⟨fun _ _ _ _ _ _ _ r h => by simp [columbariumlaw9_BloomTells.j0] at h, fun _ _ _ _ _ _ _ _ r h => by simp [columbariumlaw9_BloomTells.j1] at h, fun _ _ _ _ _ _ r h => by simp [columbariumlaw9_BloomTells.l0] at h⟩
 | k + 1 => by
  obtain ⟨ih0, ih1, ih2⟩ := columbariumlaw9_BloomTells.mono_l k
  refine ⟨?_, ?_, ?_⟩
  ·intro y0 y1 y2 y3 y4 y5 y6
   unfold columbariumlaw9_BloomTells.j0
   repeat' first
   | (with_reducible exact ih0 _ _ _ _ _ _ _)
   | (with_reducible exact ih1 _ _ _ _ _ _ _ _)
   | (with_reducible exact ih2 _ _ _ _ _ _)
   | (with_reducible exact bloom_Build.mono _ _)
   | (with_reducible exact bloom_Decode.mono _ _ _)
   | (with_reducible exact bloom_Encode.mono _ _ _)
   | (with_reducible exact bloom_May.mono _ _ _ _)
   | (with_reducible exact columbariumlaw9_known.mono _)
   | (with_reducible exact columbariumref9_Build.mono _ _)
   | (with_reducible exact columbariumref9_Decode.mono _ _ _)
   | (with_reducible exact columbariumref9_Encode.mono _ _ _)
   | (with_reducible exact columbariumref9_May.mono _ _ _ _)
   | (with_reducible exact columbariumref9_Right.mono _ _ _)
   | (with_reducible exact LeO.refl _)
   | (with_reducible exact LeO.none _)
   | (with_reducible refine LeO.ite ?_ ?_)
   | (with_reducible refine LeO.bind ?_ (fun _ => ?_))
   | exact ih0 _ _ _ _ _ _ _
   | exact ih1 _ _ _ _ _ _ _ _
   | exact ih2 _ _ _ _ _ _
   | exact bloom_Build.mono _ _
   | exact bloom_Decode.mono _ _ _
   | exact bloom_Encode.mono _ _ _
   | exact bloom_May.mono _ _ _ _
   | exact columbariumlaw9_known.mono _
   | exact columbariumref9_Build.mono _ _
   | exact columbariumref9_Decode.mono _ _ _
   | exact columbariumref9_Encode.mono _ _ _
   | exact columbariumref9_May.mono _ _ _ _
   | exact columbariumref9_Right.mono _ _ _
   | exact LeO.none _
   | refine LeO.ite ?_ ?_
   | refine LeO.bind ?_ (fun _ => ?_)
  ·intro y0 y1 y2 y3 y4 y5 y6 y7
   unfold columbariumlaw9_BloomTells.j1
   repeat' first
   | (with_reducible exact ih0 _ _ _ _ _ _ _)
   | (with_reducible exact ih1 _ _ _ _ _ _ _ _)
   | (with_reducible exact ih2 _ _ _ _ _ _)
   | (with_reducible exact bloom_Build.mono _ _)
   | (with_reducible exact bloom_Decode.mono _ _ _)
   | (with_reducible exact bloom_Encode.mono _ _ _)
   | (with_reducible exact bloom_May.mono _ _ _ _)
   | (with_reducible exact columbariumlaw9_known.mono _)
   | (with_reducible exact columbariumref9_Build.mono _ _)
   | (with_reducible exact columbariumref9_Decode.mono _ _ _)
   | (with_reducible exact columbariumref9_Encode.mono _ _ _)
   | (with_reducible exact columbariumref9_May.mono _ _ _ _)
   | (with_reducible exact columbariumref9_Right.mono _ _ _)
   | (with_reducible exact LeO.refl _)
   | (with_reducible exact LeO.none _)
   | (with_reducible refine LeO.ite ?_ ?_)
   | (with_reducible refine LeO.bind ?_ (fun _ => ?_))
   | exact ih0 _ _ _ _ _ _ _
   | exact ih1 _ _ _ _ _ _ _ _
   | exact ih2 _ _ _ _ _ _
   | exact bloom_Build.mono _ _
   | exact bloom_Decode.mono _ _ _
   | exact bloom_Encode.mono _ _ _
   | exact bloom_May.mono _ _ _ _
   | exact columbariumlaw9_known.mono _
   | exact columbariumref9_Build.mono _ _
   | exact columbariumref9_Decode.mono _ _ _
   | exact columbariumref9_Encode.mono _ _ _
   | exact columbariumref9_May.mono _ _ _ _
   | exact columbariumref9_Right.mono _ _ _
   | exact LeO.none _
   | refine LeO.ite ?_ ?_
   | refine LeO.bind ?_ (fun _ => ?_)
  ·intro y0 y1 y2 y3 y4 y5
   unfold columbariumlaw9_BloomTells.l0
   repeat' first
   | (with_reducible exact ih0 _ _ _ _ _ _ _)
   | (with_reducible exact ih1 _ _ _ _ _ _ _ _)
   | (with_reducible exact ih2 _ _ _ _ _ _)
   | (with_reducible exact bloom_Build.mono _ _)
   | (with_reducible exact bloom_Decode.mono _ _ _)
   | (with_reducible exact bloom_Encode.mono _ _ _)
   | (with_reducible exact bloom_May.mono _ _ _ _)
   | (with_reducible exact columbariumlaw9_known.mono _)
   | (with_reducible exact columbariumref9_Build.mono _ _)
   | (with_reducible exact columbariumref9_Decode.mono _ _ _)
   | (with_reducible exact columbariumref9_Encode.mono _ _ _)
   | (with_reducible exact columbariumref9_May.mono _ _ _ _)
   | (with_reducible exact columbariumref9_Right.mono _ _ _)
   | (with_reducible exact LeO.refl _)
   | (with_reducible exact LeO.none _)
   | (with_reducible refine LeO.ite ?_ ?_)
   | (with_reducible refine LeO.bind ?_ (fun _ => ?_))
   | exact ih0 _ _ _ _ _ _ _
   | exact ih1 _ _ _ _ _ _ _ _
   | exact ih2 _ _ _ _ _ _
   | exact bloom_Build.mono _ _
   | exact bloom_Decode.mono _ _ _
   | exact bloom_Encode.mono _ _ _
   | exact bloom_May.mono _ _ _ _
   | exact columbariumlaw9_known.mono _
   | exact columbariumref9_Build.mono _ _
   | exact columbariumref9_Decode.mono _ _ _
   | exact columbariumref9_Encode.mono _ _ _
   | exact columbariumref9_May.mono _ _ _ _
   | exact columbariumref9_Right.mono _ _ _
   | exact LeO.none _
   | refine LeO.ite ?_ ?_
   | refine LeO.bind ?_ (fun _ => ?_)
theorem columbariumlaw9_BloomTells.mono : ∀ a0 a1 a2 a3 a4 a5 k, LeO (columbariumlaw9_BloomTells.f k a0 a1 a2 a3 a4 a5) (columbariumlaw9_BloomTells.f (k + 1) a0 a1 a2 a3 a4 a5) := by
 intro a0 a1 a2 a3 a4 a5 k
 obtain ⟨ih0, ih1, ih2⟩ := columbariumlaw9_BloomTells.mono_l k
 unfold columbariumlaw9_BloomTells.f
 repeat' first
   | (with_reducible exact ih0 _ _ _ _ _ _ _)
   | (with_reducible exact ih1 _ _ _ _ _ _ _ _)
   | (with_reducible exact ih2 _ _ _ _ _ _)
   | (with_reducible exact bloom_Build.mono _ _)
   | (with_reducible exact bloom_Decode.mono _ _ _)
   | (with_reducible exact bloom_Encode.mono _ _ _)
   | (with_reducible exact bloom_May.mono _ _ _ _)
   | (with_reducible exact columbariumlaw9_known.mono _)
   | (with_reducible exact columbariumref9_Build.mono _ _)
   | (with_reducible exact columbariumref9_Decode.mono _ _ _)
   | (with_reducible exact columbariumref9_Encode.mono _ _ _)
   | (with_reducible exact columbariumref9_May.mono _ _ _ _)
   | (with_reducible exact columbariumref9_Right.mono _ _ _)
   | (with_reducible exact LeO.refl _)
   | (with_reducible exact LeO.none _)
   | (with_reducible refine LeO.ite ?_ ?_)
   | (with_reducible refine LeO.bind ?_ (fun _ => ?_))
   | exact ih0 _ _ _ _ _ _ _
   | exact ih1 _ _ _ _ _ _ _ _
   | exact ih2 _ _ _ _ _ _
   | exact bloom_Build.mono _ _
   | exact bloom_Decode.mono _ _ _
   | exact bloom_Encode.mono _ _ _
   | exact bloom_May.mono _ _ _ _
   | exact columbariumlaw9_known.mono _
   | exact columbariumref9_Build.mono _ _
   | exact columbariumref9_Decode.mono _ _ _
   | exact columbariumref9_Encode.mono _ _ _
   | exact columbariumref9_May.mono _ _ _ _
   | exact columbariumref9_Right.mono _ _ _
   | exact LeO.none _
   | refine LeO.ite ?_ ?_
   | refine LeO.bind ?_ (fun _ => ?_)
def columbariumlaw9_BloomTells.T13 : Bool × List (List Nat × List Nat) := (true, [([], []), ([], []), ([0, 1], [0, 1]), ([], []), ([3, 2], [3]), ([], []), ([4, 5, 4], [4, 5]), ([2, 6], [2, 6]), ([7, 6], [7]), ([8], [8]), ([9, 8, 8], [8, 9]), ([8], [8]), ([11, 10, 8], [8, 11]), ([12, 12, 8], [8, 12]), ([10, 13, 8], [8, 10, 13]), ([8, 14], [8, 14]), ([15, 13], [15]), ([16], [16]), ([17, 16], [16, 17]), ([16], [16]), ([19, 16], [16, 19]), ([18, 20, 16], [16, 18, 20]), ([16, 21], [16, 21]), ([22, 16], [22]), ([23], [23]), ([23], [23]), ([24, 25, 23], [23, 24, 25]), ([23, 26], [23, 26])])
def columbariumlaw9_BloomTells.B13 : List Nat := [0, 0, 3, 0, 15, 0, 63, 127, 255, 511, 1023, 511, 4095, 8191, 16383, 32767, 65535, 131071, 262143, 131071, 655359, 2097151, 4194303, 8388607, 16777215, 16777215, 67108863, 134217727]
theorem columbariumlaw9_BloomTells.tab13 : rtab .any (opsOf Try.f7 13) = columbariumlaw9_BloomTells.T13 := by kernel_rfl
theorem columbariumlaw9_BloomTells.bits13 : waitsOk columbariumlaw9_BloomTells.T13.2 columbariumlaw9_BloomTells.B13 = true := by kernel_rfl
set_option maxHeartbeats 8000000 in
set_option maxRecDepth 100000 in
theorem columbariumlaw9_BloomTells.calls (k : Nat) (P0_ : Nat → Prop) (A0 : Option Addr) (c0 : Nat) (l0 : List ByteArray) (a1 : ByteArray) (a2_0 : Int) (P2_1_ : Nat → Prop) (A2_1 : Option Addr) (c2_1 : Nat) (l2_1 : List Int) (P3_ : Nat → Prop) (A3 : Option Addr) (c3 : Nat) (l3 : List Int) (a4 : Int) (r : Bool) (w : World) (hs0 : Kd.V Kd.string 9 w w.heap.size (fun k_ => P0_ k_) (.slice A0 l0.length c0) l0) (hs2_1 : Kd.V (Kd.int .u8) 5 w w.heap.size (fun k_ => P2_1_ k_) (.slice A2_1 l2_1.length c2_1) l2_1) (hs3 : Kd.V (Kd.int .u8) 5 w w.heap.size (fun k_ => P3_ k_) (.slice A3 l3.length c3) l3) (hrt_ : Aside0 (r = true)) (h : columbariumlaw9_BloomTells.f k l0 a1 a2_0 l2_1 l3 a4 = some r) :
  Calls Try.prog 7 #[.slice A0 l0.length c0, .string a1, .agg #[.int .i64 a2_0, .slice A2_1 l2_1.length c2_1], .slice A3 l3.length c3, .int .i64 a4] w fun e w' => e = .returned (.bool r) ∧ Below w.heap.size w w' := by
 have hu26 := Try.underlying26
 have hu36 := Try.underlying36
 have HO0 := Aside0.mk (show Kd.V Kd.string 9 w w.heap.size (fun k_ => ((P0_ k_ ∨ P2_1_ k_ ∨ P3_ k_) ∨ w.heap.size ≤ k_)) (.slice A0 l0.length c0) l0 from Kd.V_mono hs0 (fun k_ hk => .inl (.inl hk)))
 have HO2_1 := Aside0.mk (show Kd.V (Kd.int .u8) 5 w w.heap.size (fun k_ => ((P0_ k_ ∨ P2_1_ k_ ∨ P3_ k_) ∨ w.heap.size ≤ k_)) (.slice A2_1 l2_1.length c2_1) l2_1 from Kd.V_mono hs2_1 (fun k_ hk => .inl (.inr (.inl hk))))
 have HO3 := Aside0.mk (show Kd.V (Kd.int .u8) 5 w w.heap.size (fun k_ => ((P0_ k_ ∨ P2_1_ k_ ∨ P3_ k_) ∨ w.heap.size ≤ k_)) (.slice A3 l3.length c3) l3 from Kd.V_mono hs3 (fun k_ hk => .inl (.inr (.inr hk))))
 have HB := Aside0.mk (Below.refl w.heap.size w)
 have H : ((columbariumlaw9_few.f l0).bind fun t289 => (if (l2_1.length : Int) > 9000 then (columbariumlaw9_BloomTells.j0 k t289 a1 l3 a4 true a2_0 l2_1) else (columbariumlaw9_BloomTells.j0 k t289 a1 l3 a4 (decide ((a1.size : Int) > 300)) a2_0 l2_1))) = some r := h
 clear h
 replace H := Option.bind_eq_some_iff.mp H
 obtain ⟨t289, A60, H⟩ := H
 replace H : (if (l2_1.length : Int) > 9000 then (columbariumlaw9_BloomTells.j0 k t289 a1 l3 a4 true a2_0 l2_1) else (columbariumlaw9_BloomTells.j0 k t289 a1 l3 a4 (decide ((a1.size : Int) > 300)) a2_0 l2_1)) = some r := H
 have A6 := Aside0.mk A60
 clear A60
 have HC7 := Aside0.mk H
 clear H
 go_enter Try.func7, Try.ntmps7
 go_upto_region 2 with (first | ((with_reducible refine gate_dst (N := 7) rfl ?_); (try (refine gate_guard (by rfl) ?_; dsimp only)); refine box_event ?hg (N := 7) ?hd (cs := #[.int .i64 a2_0, .slice A2_1 l2_1.length c2_1]) (t := 26) ?hr ?_; (case hd => rfl); (case hg => rfl); (case hr => first | (go_simp; done) | (go_simp; rfl)); intro gb288 hg w8 hbox hb; have n0_ := Aside0.mk (Kd.V_below (Kd.V_elderB (mV HO0.out) gb288 (Nat.le_of_eq hg.symm)) hb); have n1_ := Aside0.mk (Kd.V_below (Kd.V_elderB (mV HO2_1.out) gb288 (Nat.le_of_eq hg.symm)) hb); have n2_ := Aside0.mk (Kd.V_below (Kd.V_elderB (mV HO3.out) gb288 (Nat.le_of_eq hg.symm)) hb); have n3_ := Aside0.mk (below_step (mB HB.out) hb); have n4_ := Aside0.mk (hbox); have n5_ := Aside0.mk ((by rw [hg]; exact (below_size (mB HB.out)) : w.heap.size ≤ gb288)); have n6_ := n5_; clear HO0; clear HO2_1; clear HO3; clear HB; have HO0 := n0_; have HO2_1 := n1_; have HO3 := n2_; have HB := n3_; have BK288 := n4_; have GW288 := n5_; have GE288 := n6_; clear n0_ n1_ n2_ n3_ n4_ n5_ n6_; clear hb hbox hg) | ((with_reducible refine gate_callee (f := 9) rfl ?_); refine goesL_ (some 26) rfl rfl Try.func9 (by kernel_rfl) rfl #[.slice A0 l0.length c0] rfl (by (try simp only [List.map_toArray, List.map_cons, List.map_nil]); first | done | rfl | (simp only [List.length_drop, List.length_take]; rfl)) ?_; (with_reducible refine (columbariumlaw9_few.calls (fun k_ => (((P0_ k_ ∨ P2_1_ k_ ∨ P3_ k_) ∨ w.heap.size ≤ k_) ∧ k_ ≠ gb288)) _ _ l0 t289 _ ?side1 A6.out).mono ?_); (case side1 => first | exact HO0.out | exact Kd.V_mono HO0.out (fun k_ hk_ => by grind)); rintro e w9 ⟨v290, rfl, ho0, hb⟩; refine ⟨_, rfl, ?_⟩; have n0_ := Aside0.mk (Kd.V_below (mV HO0.out) hb); have n1_ := Aside0.mk (Kd.V_below (mV HO2_1.out) hb); have n2_ := Aside0.mk (Kd.V_below (mV HO3.out) hb); have n3_ := Aside0.mk (Kd.V_lower (Kd.V_mono (ok' := fun k_ => ((P0_ k_ ∨ P2_1_ k_ ∨ P3_ k_) ∨ w.heap.size ≤ k_) ∧ k_ ≠ gb288) ho0 (fun k_ hk_ => ⟨Or.elim hk_ (fun hs_ => hs_.1) (fun hn_ => (.inr (Nat.le_trans (below_size mZ) hn_))), Or.elim hk_ (fun hs_ => hs_.2) (fun hn_ => (Kd.freshB (mK BK288.out) k_ hn_))⟩)) (below_size mZ)); have n4_ := Aside0.mk (blk_below (mK BK288.out) hb); have n5_ := Aside0.mk (below_step mZ hb); clear HO0; clear HO2_1; clear HO3; clear BK288; clear HB; have HO0 := n0_; have HO2_1 := n1_; have HO3 := n2_; have HO291 := n3_; have BK288 := n4_; have HB := n5_; clear n0_ n1_ n2_ n3_ n4_ n5_; (try clear hb); (try clear hb2); (try clear hk); (try clear hi); (try clear ho0)))
 (try simp only [Act.put, List.setIfInBounds_toArray, List.set_cons_zero, List.set_cons_succ])
 go_cut [35] (fun v35 wc => ∃ (kq : Nat) (x35_6 : Bool), v35 = .bool x35_6 ∧ Aside0 (columbariumlaw9_BloomTells.j0 kq t289 a1 l3 a4 x35_6 a2_0 l2_1 = some r) ∧ Aside0 (kq ≤ k) ∧ Aside0 (Kd.V Kd.string 9 wc w.heap.size (fun k_ => ((P0_ k_ ∨ P2_1_ k_ ∨ P3_ k_) ∨ w.heap.size ≤ k_) ∧ k_ ≠ gb288) v290 t289) ∧ Aside0 (Kd.V (Kd.int .u8) 5 wc w.heap.size (fun k_ => ((P0_ k_ ∨ P2_1_ k_ ∨ P3_ k_) ∨ w.heap.size ≤ k_) ∧ k_ ≠ gb288) (.slice A3 l3.length c3) l3) ∧ Aside0 (Kd.V (Kd.int .u8) 5 wc w.heap.size (fun k_ => ((P0_ k_ ∨ P2_1_ k_ ∨ P3_ k_) ∨ w.heap.size ≤ k_) ∧ k_ ≠ gb288) (.slice A2_1 l2_1.length c2_1) l2_1) ∧ Aside0 (wc.heap[gb288]? = some (.cells #[.int .i64 a2_0, (.slice A2_1 l2_1.length c2_1)] 26 (0, 0))) ∧ Aside0 (Below w.heap.size w wc))
 case first =>
  have H := HC7.out
  clear HC7
  by_cases c10 : (l2_1.length : Int) > 9000
  ·rw [if_pos c10] at H
   have c10b0 : decide (9000 < (l2_1.length : Int)) = true := decide_eq_true c10
   have c10b1 : decide (9000 < l2_1.length) = true := decide_eq_true (by omega)
   clear c10
   (first | rw [c10b0] | rw [c10b1] | (simp only [i64_w, i32_w]; rw [c10b0]) | skip)
   have H' := Aside0.mk H
   clear H
   obtain ⟨hcz11_0, hcz11_1, hfz11_0, hfz11_1⟩ := cells_2 BK288.out
   go_wp2
   go_meet
   case rel => exact ⟨_, (true), (by first | rfl | (simp; done) | (simp [*]; done)), H', ⟨by first | omega | exact Nat.le_refl _⟩, ⟨mV HO291.out⟩, ⟨mV HO3.out⟩, ⟨mV HO2_1.out⟩, ⟨mK BK288.out⟩, ⟨mZ⟩⟩
  ·rw [if_neg c10] at H
   have c10b0 : decide (9000 < (l2_1.length : Int)) = false := decide_eq_false c10
   have c10b1 : decide (9000 < l2_1.length) = false := decide_eq_false (by omega)
   clear c10
   (first | rw [c10b0] | rw [c10b1] | (simp only [i64_w, i32_w]; rw [c10b0]) | skip)
   have H' := Aside0.mk H
   clear H
   obtain ⟨hcz12_0, hcz12_1, hfz12_0, hfz12_1⟩ := cells_2 BK288.out
   go_wp2
   go_meet
   case rel => exact ⟨_, (decide ((a1.size : Int) > 300)), (by first | rfl | (simp; done) | (simp [*]; done)), H', ⟨by first | omega | exact Nat.le_refl _⟩, ⟨mV HO291.out⟩, ⟨mV HO3.out⟩, ⟨mV HO2_1.out⟩, ⟨mK BK288.out⟩, ⟨mZ⟩⟩
 case rest =>
  clear HC7
  try clear c3
  try clear c10
  try clear c10b0
  try clear c10b1
  try clear hcz11_0
  try clear hcz11_1
  try clear hcz12_0
  try clear hcz12_1
  try clear hfz11_0
  try clear hfz11_1
  try clear hfz12_0
  try clear hfz12_1
  obtain ⟨kq, x35_6, rfl, HA, HJ6, HO_0, HO_3, HO_289001, BK288, HB⟩ := hcut
  cases kq with
  | zero => exact absurd HA.out (by simp [columbariumlaw9_BloomTells.j0])
  | succ kj6 =>
   have H := HA.out
   clear HA
   simp only [columbariumlaw9_BloomTells.j0] at H
   by_cases c13 : x35_6 = true
   ·subst c13
    have H1 : ((columbariumlaw9_known.f kj6).bind fun t292 => (some t292)) = some r := by rw [if_pos rfl] at H; exact H
    clear H
    have H := H1
    clear H1
    replace H := Option.bind_eq_some_iff.mp H
    obtain ⟨t292, A140, H⟩ := H
    replace H : (some t292) = some r := H
    have A14 := Aside0.mk A140
    clear A140
    obtain rfl := Option.some.inj H
    go_wp2_with (first | ((with_reducible refine gate_callee (f := 14) rfl ?_); refine goesL_ (some 36) rfl rfl Try.func14 (by kernel_rfl) rfl #[] rfl (by (try simp only [List.map_toArray, List.map_cons, List.map_nil]); first | done | rfl | (simp only [List.length_drop, List.length_take]; rfl)) ?_; (with_reducible refine (columbariumlaw9_known.calls kj6  t292 _ A14.out).mono ?_); rintro e w15 ⟨rfl, hb⟩; refine ⟨_, rfl, ?_⟩; have n0_ := Aside0.mk (Kd.V_below (mV HO_0.out) hb); have n1_ := Aside0.mk (Kd.V_below (mV HO_3.out) hb); have n2_ := Aside0.mk (Kd.V_below (mV HO_289001.out) hb); have n3_ := Aside0.mk (blk_below (mK BK288.out) hb); have n4_ := Aside0.mk (below_step mZ hb); clear HO_0; clear HO_3; clear HO_289001; clear BK288; clear HB; have HO_0 := n0_; have HO_3 := n1_; have HO_289001 := n2_; have BK288 := n3_; have HB := n4_; clear n0_ n1_ n2_ n3_ n4_; (try clear hb); (try clear hb2); (try clear hk); (try clear hi)))
    go_ret
    exact ⟨by first | rfl | (simp [errW_none, errW_some] <;> rfl) | (simp [*, errW_none, errW_some] <;> rfl), mZ⟩
   ·replace c13 := Bool.eq_false_iff.mpr c13
    subst c13
    have H1 : ((bloom_Build.f kj6 t289).bind fun bt293 => ((columbariumref9_Build.f kj6 t289).bind fun bt298 => (if bt293.1 = bt298.1 then (columbariumlaw9_BloomTells.j1 kj6 a1 l3 a4 ((strOfNums bt293.2).toList != (strOfNums bt298.2).toList) a2_0 l2_1 bt293.1 bt293.2) else (columbariumlaw9_BloomTells.j1 kj6 a1 l3 a4 true a2_0 l2_1 bt293.1 bt293.2)))) = some r := by rw [if_neg (show ¬ (false = true) by decide)] at H; exact H
    clear H
    have H := H1
    clear H1
    replace H := Option.bind_eq_some_iff.mp H
    obtain ⟨⟨t293, t294⟩, A160, H⟩ := H
    replace H : ((columbariumref9_Build.f kj6 t289).bind fun bt298 => (if t293 = bt298.1 then (columbariumlaw9_BloomTells.j1 kj6 a1 l3 a4 ((strOfNums t294).toList != (strOfNums bt298.2).toList) a2_0 l2_1 t293 t294) else (columbariumlaw9_BloomTells.j1 kj6 a1 l3 a4 true a2_0 l2_1 t293 t294))) = some r := H
    have A16 := Aside0.mk A160
    clear A160
    replace H := Option.bind_eq_some_iff.mp H
    obtain ⟨⟨t298, t299⟩, A170, H⟩ := H
    replace H : (if t293 = t298 then (columbariumlaw9_BloomTells.j1 kj6 a1 l3 a4 ((strOfNums t294).toList != (strOfNums t299).toList) a2_0 l2_1 t293 t294) else (columbariumlaw9_BloomTells.j1 kj6 a1 l3 a4 true a2_0 l2_1 t293 t294)) = some r := H
    have A17 := Aside0.mk A170
    clear A170
    have HC18 := Aside0.mk H
    clear H
    obtain ⟨Ao19, co19, eo19⟩ := Kd.V_slice HO_0.out
    subst eo19
    go_upto_region 6 with (first | ((with_reducible refine gate_callee (f := 10) rfl ?_); refine goesL_ (some 38) rfl rfl Try.func10 (by kernel_rfl) rfl #[.slice Ao19 t289.length co19] rfl (by (try simp only [List.map_toArray, List.map_cons, List.map_nil]); first | done | rfl | (simp only [List.length_drop, List.length_take]; rfl)) ?_; (with_reducible refine (bloom_Build.calls kj6 _ _ t289 t293 t294 _ ?side1 ?side2 A16.out).mono ?_); (case side1 => repeat (first | exact (Kd.V_reads' HO_0.out).2.2 | (with_reducible refine Kd.C_alloc ?_ _) | (with_reducible refine Kd.C_drewN ?_ _) | (with_reducible refine Kd.C_drew ?_))); (case side2 => exact (Kd.V_reads' HO_0.out).2.1); rintro e w20 ⟨v295, rfl, ho0, hb⟩; refine ⟨_, rfl, ?_⟩; have n0_ := Aside0.mk (Kd.V_elder' (mV HO_0.out) (Kd.R_base ho0) hb); have n1_ := Aside0.mk (Kd.V_elder' (mV HO_3.out) (Kd.R_base ho0) hb); have n2_ := Aside0.mk (Kd.V_elder' (mV HO_289001.out) (Kd.R_base ho0) hb); have n3_ := Aside0.mk (Kd.R_lower (Kd.R_newM (M := fun k_ => (w.heap.size ≤ k_)) ho0 (below_size mZ) (fun k_ h_ => h_)) (below_size mZ)); have n4_ := Aside0.mk (blk_below (mK BK288.out) hb); have n5_ := Aside0.mk (below_step mZ hb); clear HO_0; clear HO_3; clear HO_289001; clear BK288; clear HB; have HO_0 := n0_; have HO_3 := n1_; have HO_289001 := n2_; have HO296 := n3_; have BK288 := n4_; have HB := n5_; clear n0_ n1_ n2_ n3_ n4_ n5_; (try clear hb); (try clear hb2); (try clear hk); (try clear hi); (try clear ho0)) | ((with_reducible refine gate_dst (N := 11) rfl ?_); (try (refine gate_guard (by rfl) ?_; dsimp only)); refine box_event ?hg (N := 11) ?hd (cs := #[.int .i64 0, .slice none 0 0]) (t := 26) ?hr ?_; (case hd => rfl); (case hg => rfl); (case hr => first | (go_simp; done) | (go_simp; rfl)); intro gb297 hg w21 hbox hb; have n0_ := Aside0.mk (Kd.V_below (Kd.V_elderB (mV HO_0.out) gb297 (Nat.le_of_eq hg.symm)) hb); have n1_ := Aside0.mk (Kd.V_below (Kd.V_elderB (mV HO_3.out) gb297 (Nat.le_of_eq hg.symm)) hb); have n2_ := Aside0.mk (Kd.V_below (Kd.V_elderB (mV HO_289001.out) gb297 (Nat.le_of_eq hg.symm)) hb); have n3_ := Aside0.mk (Kd.R_below (mR HO296.out) hb); have n4_ := Aside0.mk (blk_below (mK BK288.out) hb); have n5_ := Aside0.mk (below_step mZ hb); have n6_ := Aside0.mk (hbox); have n7_ := Aside0.mk ((by rw [hg]; exact (below_size mZ) : w.heap.size ≤ gb297)); have n8_ := n7_; have n9_ := Aside0.mk ((by rw [hg]; exact Nat.ne_of_lt (blk_lt (mK BK288.out)) : gb288 ≠ gb297)); have n10_ := Aside0.mk ((by rw [hg]; exact Nat.ne_of_gt (blk_lt (mK BK288.out)) : gb297 ≠ gb288)); clear HO_0; clear HO_3; clear HO_289001; clear HO296; clear BK288; clear HB; have HO_0 := n0_; have HO_3 := n1_; have HO_289001 := n2_; have HO296 := n3_; have BK288 := n4_; have HB := n5_; have BK297 := n6_; have GW297 := n7_; have GE297 := n8_; have NB288_297 := n9_; have NB297_288 := n10_; clear n0_ n1_ n2_ n3_ n4_ n5_ n6_ n7_ n8_ n9_ n10_; clear hb hbox hg; have hnb22 := NB297_288.out; have hnc22 := NB288_297.out; obtain ⟨hcz23_0, hcz23_1, hfz23_0, hfz23_1⟩ := cells_2 BK297.out; obtain ⟨Ao24, co24, eo24⟩ := Kd.R_slice HO296.out; subst eo24) | ((with_reducible refine gate_callee (f := 15) rfl ?_); refine goesL_ (some 40) rfl rfl Try.func15 (by kernel_rfl) rfl #[.slice Ao19 t289.length co19] rfl (by (try simp only [List.map_toArray, List.map_cons, List.map_nil]); first | done | rfl | (simp only [List.length_drop, List.length_take]; rfl)) ?_; (with_reducible refine (columbariumref9_Build.calls kj6 _ _ t289 t298 t299 _ ?side1 ?side2 A17.out).mono ?_); (case side1 => refine (Kd.V_reads' (e := 9) (base := w.heap.size) (ok := fun k_ => (((((P0_ k_ ∨ P2_1_ k_ ∨ P3_ k_) ∨ w.heap.size ≤ k_) ∧ k_ ≠ gb288) ∧ some k_ ≠ (.slice Ao24 t294.length co24 : Value).ownBlock) ∧ k_ ≠ gb297)) (n := t289.length) (c := co19) ?_).2.2; exact (by (with_reducible repeat (first | apply Kd.V_alloc | apply Kd.V_drewN | apply Kd.V_drew)); exact (Kd.V_mono (Kd.V_far (p := ⟨gb297, 1, none⟩) (Kd.V_far (p := ⟨gb297, 0, none⟩) (Kd.V_mono HO_0.out (fun k_ hk => (⟨hk, hk.2⟩ : _ ∧ k_ ≠ gb297))) (fun _ hk => hk.2) (.int .i64 t293)) (fun _ hk => hk.2) (.slice Ao24 t294.length co24)) (fun _ h_ => h_.1)))); (case side2 => exact (Kd.V_reads' HO_0.out).2.1); rintro e w25 ⟨v300, rfl, ho0, hb⟩; refine ⟨_, rfl, ?_⟩; have n0_ := Aside0.mk (Kd.V_elder' (by (with_reducible repeat (first | apply Kd.V_alloc | apply Kd.V_drewN | apply Kd.V_drew)); exact (Kd.V_mono (Kd.V_far (p := ⟨gb297, 1, none⟩) (Kd.V_far (p := ⟨gb297, 0, none⟩) (Kd.V_mono HO_0.out (fun k_ hk => (⟨hk, hk.2⟩ : _ ∧ k_ ≠ gb297))) (fun _ hk => hk.2) (.int .i64 t293)) (fun _ hk => hk.2) (.slice Ao24 t294.length co24)) (fun _ h_ => h_.1))) (Kd.R_base ho0) hb); have n1_ := Aside0.mk (Kd.V_elder' (by (with_reducible repeat (first | apply Kd.V_alloc | apply Kd.V_drewN | apply Kd.V_drew)); exact (Kd.V_mono (Kd.V_far (p := ⟨gb297, 1, none⟩) (Kd.V_far (p := ⟨gb297, 0, none⟩) (Kd.V_mono HO_3.out (fun k_ hk => (⟨hk, hk.2⟩ : _ ∧ k_ ≠ gb297))) (fun _ hk => hk.2) (.int .i64 t293)) (fun _ hk => hk.2) (.slice Ao24 t294.length co24)) (fun _ h_ => h_.1))) (Kd.R_base ho0) hb); have n2_ := Aside0.mk (Kd.V_elder' (by (with_reducible repeat (first | apply Kd.V_alloc | apply Kd.V_drewN | apply Kd.V_drew)); exact (Kd.V_mono (Kd.V_far (p := ⟨gb297, 1, none⟩) (Kd.V_far (p := ⟨gb297, 0, none⟩) (Kd.V_mono HO_289001.out (fun k_ hk => (⟨hk, hk.2⟩ : _ ∧ k_ ≠ gb297))) (fun _ hk => hk.2) (.int .i64 t293)) (fun _ hk => hk.2) (.slice Ao24 t294.length co24)) (fun _ h_ => h_.1))) (Kd.R_base ho0) hb); have n3_ := Aside0.mk (Kd.R_elder' (by (with_reducible repeat (first | apply Kd.R_alloc | apply Kd.R_drewN | apply Kd.R_drew)); exact (Kd.R_mono (Kd.R_far (p := ⟨gb297, 1, none⟩) (Kd.R_far (p := ⟨gb297, 0, none⟩) (Kd.R_types HO296.out BK297.out (by decide)) (fun _ hk => hk.2) (.int .i64 t293)) (fun _ hk => hk.2) (.slice Ao24 t294.length co24)) (fun _ h_ => h_.1))) (Kd.R_base ho0) hb); have n4_ := Aside0.mk (Kd.R_lower (Kd.R_new' (Kd.R_newM (M := fun k_ => (w.heap.size ≤ k_)) ho0 (below_size mZ) (fun k_ h_ => h_)) (Kd.R_lt (by (with_reducible repeat (first | apply Kd.R_alloc | apply Kd.R_drewN | apply Kd.R_drew)); exact (Kd.R_mono (Kd.R_far (p := ⟨gb297, 1, none⟩) (Kd.R_far (p := ⟨gb297, 0, none⟩) (Kd.R_types HO296.out BK297.out (by decide)) (fun _ hk => hk.2) (.int .i64 t293)) (fun _ hk => hk.2) (.slice Ao24 t294.length co24)) (fun _ h_ => h_.1))))) (below_size mZ)); have n5_ := Aside0.mk (blk_below (g := gb288) (o := .cells #[.int .i64 a2_0, .slice A2_1 l2_1.length c2_1] 26 (0, 0)) (by (with_reducible repeat (first | refine blk_drewN ?_ _ | refine blk_drew ?_ | refine blk_alloc ?_ _)); refine blk_far ?_ NB288_297.out _; refine blk_far ?_ NB288_297.out _; (with_reducible repeat (first | refine blk_drewN ?_ _ | refine blk_drew ?_ | refine blk_alloc ?_ _)); exact BK288.out) hb); have n6_ := Aside0.mk (blk_below (g := gb297) (o := .cells #[.int .i64 t293, .slice Ao24 t294.length co24] 26 (0, 0)) (by (with_reducible repeat (first | refine blk_drewN ?_ _ | refine blk_drew ?_ | refine blk_alloc ?_ _)); apply puts_2; (with_reducible repeat (first | refine blk_drewN ?_ _ | refine blk_drew ?_ | refine blk_alloc ?_ _)); exact BK297.out) hb); have n7_ := Aside0.mk (below_step mZ hb); clear HO_0; clear HO_3; clear HO_289001; clear HO296; clear BK288; clear BK297; clear HB; have HO_0 := n0_; have HO_3 := n1_; have HO_289001 := n2_; have HO296 := n3_; have HO301 := n4_; have BK288 := n5_; have BK297 := n6_; have HB := n7_; clear n0_ n1_ n2_ n3_ n4_ n5_ n6_ n7_; (try clear hb); (try clear hb2); (try clear hk); (try clear hi); (try clear ho0)) | ((with_reducible refine gate_dst (N := 12) rfl ?_); (try (refine gate_guard (by rfl) ?_; dsimp only)); refine box_event ?hg (N := 12) ?hd (cs := #[.int .i64 0, .slice none 0 0]) (t := 36) ?hr ?_; (case hd => rfl); (case hg => rfl); (case hr => first | (go_simp; done) | (go_simp; rfl)); intro gb302 hg w26 hbox hb; have n0_ := Aside0.mk (Kd.V_below (Kd.V_elderB (mV HO_0.out) gb302 (Nat.le_of_eq hg.symm)) hb); have n1_ := Aside0.mk (Kd.V_below (Kd.V_elderB (mV HO_3.out) gb302 (Nat.le_of_eq hg.symm)) hb); have n2_ := Aside0.mk (Kd.V_below (Kd.V_elderB (mV HO_289001.out) gb302 (Nat.le_of_eq hg.symm)) hb); have n3_ := Aside0.mk (Kd.R_below (mR HO296.out) hb); have n4_ := Aside0.mk (Kd.R_below (mR HO301.out) hb); have n5_ := Aside0.mk (blk_below (mK BK288.out) hb); have n6_ := Aside0.mk (blk_below (mK BK297.out) hb); have n7_ := Aside0.mk (below_step mZ hb); have n8_ := Aside0.mk (hbox); have n9_ := Aside0.mk ((by rw [hg]; exact (below_size mZ) : w.heap.size ≤ gb302)); have n10_ := n9_; have n11_ := Aside0.mk ((by rw [hg]; exact Nat.ne_of_lt (blk_lt (mK BK288.out)) : gb288 ≠ gb302)); have n12_ := Aside0.mk ((by rw [hg]; exact Nat.ne_of_gt (blk_lt (mK BK288.out)) : gb302 ≠ gb288)); have n13_ := Aside0.mk ((by rw [hg]; exact Nat.ne_of_lt (blk_lt (mK BK297.out)) : gb297 ≠ gb302)); have n14_ := Aside0.mk ((by rw [hg]; exact Nat.ne_of_gt (blk_lt (mK BK297.out)) : gb302 ≠ gb297)); clear HO_0; clear HO_3; clear HO_289001; clear HO296; clear HO301; clear BK288; clear BK297; clear HB; have HO_0 := n0_; have HO_3 := n1_; have HO_289001 := n2_; have HO296 := n3_; have HO301 := n4_; have BK288 := n5_; have BK297 := n6_; have HB := n7_; have BK302 := n8_; have GW302 := n9_; have GE302 := n10_; have NB288_302 := n11_; have NB302_288 := n12_; have NB297_302 := n13_; have NB302_297 := n14_; clear n0_ n1_ n2_ n3_ n4_ n5_ n6_ n7_ n8_ n9_ n10_ n11_ n12_ n13_ n14_; clear hb hbox hg; have hnb27 := NB302_288.out; have hnc27 := NB288_302.out; have hnb28 := NB302_297.out; have hnc28 := NB297_302.out; obtain ⟨hcz29_0, hcz29_1, hfz29_0, hfz29_1⟩ := cells_2 BK302.out; obtain ⟨Ao30, co30, eo30⟩ := Kd.R_slice HO301.out; subst eo30))
    (try simp only [Act.put, List.setIfInBounds_toArray, List.set_cons_zero, List.set_cons_succ])
    go_cut [54] (fun v54 wc => ∃ (kq : Nat) (x54_17 : Bool), v54 = .bool x54_17 ∧ Aside0 (columbariumlaw9_BloomTells.j1 kq a1 l3 a4 x54_17 a2_0 l2_1 t293 t294 = some r) ∧ Aside0 (kq ≤ kj6) ∧ Aside0 (Kd.V (Kd.int .u8) 5 wc w.heap.size (fun k_ => ((P0_ k_ ∨ P2_1_ k_ ∨ P3_ k_) ∨ w.heap.size ≤ k_) ∧ some k_ ≠ ((.slice Ao24 t294.length co24) : Value).ownBlock ∧ some k_ ≠ ((.slice Ao30 t299.length co30) : Value).ownBlock ∧ k_ ≠ gb288 ∧ k_ ≠ gb297 ∧ k_ ≠ gb302) (.slice A3 l3.length c3) l3) ∧ Aside0 (Kd.V (Kd.int .u8) 5 wc w.heap.size (fun k_ => ((P0_ k_ ∨ P2_1_ k_ ∨ P3_ k_) ∨ w.heap.size ≤ k_) ∧ some k_ ≠ ((.slice Ao24 t294.length co24) : Value).ownBlock ∧ some k_ ≠ ((.slice Ao30 t299.length co30) : Value).ownBlock ∧ k_ ≠ gb288 ∧ k_ ≠ gb297 ∧ k_ ≠ gb302) (.slice A2_1 l2_1.length c2_1) l2_1) ∧ Aside0 (Kd.R (Kd.int .u8) 5 wc w.heap.size (fun k_ => (w.heap.size ≤ k_) ∧ some k_ ≠ ((.slice Ao30 t299.length co30) : Value).ownBlock) (.slice Ao24 t294.length co24) t294) ∧ Aside0 (Kd.R (Kd.int .u8) 5 wc w.heap.size (fun k_ => (w.heap.size ≤ k_) ∧ some k_ ≠ ((.slice Ao24 t294.length co24) : Value).ownBlock) (.slice Ao30 t299.length co30) t299) ∧ Aside0 (wc.heap[gb288]? = some (.cells #[.int .i64 a2_0, (.slice A2_1 l2_1.length c2_1)] 26 (0, 0))) ∧ Aside0 (wc.heap[gb297]? = some (.cells #[.int .i64 t293, (.slice Ao24 t294.length co24)] 26 (0, 0))) ∧ Aside0 (wc.heap[gb302]? = some (.cells #[.int .i64 t298, (.slice Ao30 t299.length co30)] 36 (0, 0))) ∧ Aside0 (Below w.heap.size w wc))
    case first =>
     have H := HC18.out
     clear HC18
     by_cases c31 : t293 = t298
     ·rw [if_pos c31] at H
      have c31b0 : (t293 == t298) = true := beq_iff_eq.mpr c31
      have c31b1 : (t293 != t298) = false := bne_eq_false_iff_eq.mpr c31
      clear c31
      (first | rw [c31b0] | rw [c31b1] | (simp only [i64_w, i32_w]; rw [c31b0]) | skip)
      have H' := Aside0.mk H
      clear H
      have hnb32 := NB297_288.out
      have hnc32 := NB288_297.out
      have hnb33 := NB297_302.out
      have hnc33 := NB302_297.out
      obtain ⟨hcz34_0, hcz34_1, hfz34_0, hfz34_1⟩ := cells_2 BK297.out
      have hnb35 := NB302_288.out
      have hnc35 := NB288_302.out
      obtain ⟨hcz36_0, hcz36_1, hfz36_0, hfz36_1⟩ := cells_2 BK302.out
      have hcv37 := own_string (P := Try.prog) Try.underlying24 Try.underlying5 Try.underlying9 (Kd.own_of_R ((Kd.R_far (p := ⟨gb302, 1, none⟩) (Kd.R_far (p := ⟨gb302, 0, none⟩) (Kd.R_types HO296.out BK302.out (by decide)) (fun _ hk => hk.2) (.int .i64 t298)) (fun _ hk => hk.2) (.slice Ao30 t299.length co30))))
      have hcv38 := own_string (P := Try.prog) Try.underlying24 Try.underlying5 Try.underlying9 (Kd.own_of_R ((Kd.R_far (p := ⟨gb302, 1, none⟩) (Kd.R_far (p := ⟨gb302, 0, none⟩) (Kd.R_types HO301.out BK302.out (by decide)) (fun _ hk => hk.2) (.int .i64 t298)) (fun _ hk => hk.2) (.slice Ao30 t299.length co30))))
      go_wp2
      go_meet
      case rel => exact ⟨_, (((strOfNums t294).toList != (strOfNums t299).toList)), (by first | rfl | (simp; done) | (simp [*]; done)), H', ⟨by have := HJ6.out; first | omega | exact Nat.le_refl _⟩, ⟨by (with_reducible repeat (first | apply Kd.V_alloc | apply Kd.V_drewN | apply Kd.V_drew)); exact Kd.V_mono (Kd.V_far (p := ⟨gb302, 1, none⟩) (Kd.V_far (p := ⟨gb302, 0, none⟩) (Kd.V_mono HO_3.out (fun k_ hk => (⟨hk, hk.2⟩ : _ ∧ k_ ≠ gb302))) (fun _ hk => hk.2) (.int .i64 t298)) (fun _ hk => hk.2) (.slice Ao30 t299.length co30)) (fun _ hk => ⟨hk.1.1.1.1.1.1, ⟨hk.1.1.1.1.2, ⟨hk.1.1.2, ⟨hk.1.1.1.1.1.2, ⟨hk.1.1.1.2, hk.1.2⟩⟩⟩⟩⟩)⟩, ⟨by (with_reducible repeat (first | apply Kd.V_alloc | apply Kd.V_drewN | apply Kd.V_drew)); exact Kd.V_mono (Kd.V_far (p := ⟨gb302, 1, none⟩) (Kd.V_far (p := ⟨gb302, 0, none⟩) (Kd.V_mono HO_289001.out (fun k_ hk => (⟨hk, hk.2⟩ : _ ∧ k_ ≠ gb302))) (fun _ hk => hk.2) (.int .i64 t298)) (fun _ hk => hk.2) (.slice Ao30 t299.length co30)) (fun _ hk => ⟨hk.1.1.1.1.1.1, ⟨hk.1.1.1.1.2, ⟨hk.1.1.2, ⟨hk.1.1.1.1.1.2, ⟨hk.1.1.1.2, hk.1.2⟩⟩⟩⟩⟩)⟩, ⟨by (with_reducible repeat (first | apply Kd.R_alloc | apply Kd.R_drewN | apply Kd.R_drew)); exact Kd.R_mono (Kd.R_far (p := ⟨gb302, 1, none⟩) (Kd.R_far (p := ⟨gb302, 0, none⟩) (Kd.R_types HO296.out BK302.out (by decide)) (fun _ hk => hk.2) (.int .i64 t298)) (fun _ hk => hk.2) (.slice Ao30 t299.length co30)) (fun _ hk => ⟨hk.1.1.1, hk.1.2⟩)⟩, ⟨by (with_reducible repeat (first | apply Kd.R_alloc | apply Kd.R_drewN | apply Kd.R_drew)); exact Kd.R_mono (Kd.R_far (p := ⟨gb302, 1, none⟩) (Kd.R_far (p := ⟨gb302, 0, none⟩) (Kd.R_types HO301.out BK302.out (by decide)) (fun _ hk => hk.2) (.int .i64 t298)) (fun _ hk => hk.2) (.slice Ao30 t299.length co30)) (fun _ hk => ⟨hk.1.1.1, hk.1.2⟩)⟩, ⟨by (with_reducible repeat (first | refine blk_drewN ?_ _ | refine blk_drew ?_ | refine blk_alloc ?_ _)); refine blk_far ?_ NB288_302.out _; refine blk_far ?_ NB288_302.out _; (with_reducible repeat (first | refine blk_drewN ?_ _ | refine blk_drew ?_ | refine blk_alloc ?_ _)); exact BK288.out⟩, ⟨by (with_reducible repeat (first | refine blk_drewN ?_ _ | refine blk_drew ?_ | refine blk_alloc ?_ _)); refine blk_far ?_ NB297_302.out _; refine blk_far ?_ NB297_302.out _; (with_reducible repeat (first | refine blk_drewN ?_ _ | refine blk_drew ?_ | refine blk_alloc ?_ _)); exact BK297.out⟩, ⟨by (with_reducible repeat (first | refine blk_drewN ?_ _ | refine blk_drew ?_ | refine blk_alloc ?_ _)); apply puts_2; (with_reducible repeat (first | refine blk_drewN ?_ _ | refine blk_drew ?_ | refine blk_alloc ?_ _)); exact BK302.out⟩, ⟨mZ⟩⟩
     ·rw [if_neg c31] at H
      have c31b0 : (t293 == t298) = false := beq_eq_false_iff_ne.mpr c31
      have c31b1 : (t293 != t298) = true := bne_iff_ne.mpr c31
      (first | rw [c31b0] | rw [c31b1] | (simp only [i64_w, i32_w]; rw [c31b0]) | skip)
      have H' := Aside0.mk H
      clear H
      have hnb39 := NB297_288.out
      have hnc39 := NB288_297.out
      have hnb40 := NB297_302.out
      have hnc40 := NB302_297.out
      obtain ⟨hcz41_0, hcz41_1, hfz41_0, hfz41_1⟩ := cells_2 BK297.out
      have hnb42 := NB302_288.out
      have hnc42 := NB288_302.out
      obtain ⟨hcz43_0, hcz43_1, hfz43_0, hfz43_1⟩ := cells_2 BK302.out
      go_wp2
      go_meet
      case rel => exact ⟨_, (true), (by first | rfl | (simp; done) | (simp [*]; done)), H', ⟨by have := HJ6.out; first | omega | exact Nat.le_refl _⟩, ⟨by (with_reducible repeat (first | apply Kd.V_alloc | apply Kd.V_drewN | apply Kd.V_drew)); exact Kd.V_mono (Kd.V_far (p := ⟨gb302, 1, none⟩) (Kd.V_far (p := ⟨gb302, 0, none⟩) (Kd.V_mono HO_3.out (fun k_ hk => (⟨hk, hk.2⟩ : _ ∧ k_ ≠ gb302))) (fun _ hk => hk.2) (.int .i64 t298)) (fun _ hk => hk.2) (.slice Ao30 t299.length co30)) (fun _ hk => ⟨hk.1.1.1.1.1.1, ⟨hk.1.1.1.1.2, ⟨hk.1.1.2, ⟨hk.1.1.1.1.1.2, ⟨hk.1.1.1.2, hk.1.2⟩⟩⟩⟩⟩)⟩, ⟨by (with_reducible repeat (first | apply Kd.V_alloc | apply Kd.V_drewN | apply Kd.V_drew)); exact Kd.V_mono (Kd.V_far (p := ⟨gb302, 1, none⟩) (Kd.V_far (p := ⟨gb302, 0, none⟩) (Kd.V_mono HO_289001.out (fun k_ hk => (⟨hk, hk.2⟩ : _ ∧ k_ ≠ gb302))) (fun _ hk => hk.2) (.int .i64 t298)) (fun _ hk => hk.2) (.slice Ao30 t299.length co30)) (fun _ hk => ⟨hk.1.1.1.1.1.1, ⟨hk.1.1.1.1.2, ⟨hk.1.1.2, ⟨hk.1.1.1.1.1.2, ⟨hk.1.1.1.2, hk.1.2⟩⟩⟩⟩⟩)⟩, ⟨by (with_reducible repeat (first | apply Kd.R_alloc | apply Kd.R_drewN | apply Kd.R_drew)); exact Kd.R_mono (Kd.R_far (p := ⟨gb302, 1, none⟩) (Kd.R_far (p := ⟨gb302, 0, none⟩) (Kd.R_types HO296.out BK302.out (by decide)) (fun _ hk => hk.2) (.int .i64 t298)) (fun _ hk => hk.2) (.slice Ao30 t299.length co30)) (fun _ hk => ⟨hk.1.1.1, hk.1.2⟩)⟩, ⟨by (with_reducible repeat (first | apply Kd.R_alloc | apply Kd.R_drewN | apply Kd.R_drew)); exact Kd.R_mono (Kd.R_far (p := ⟨gb302, 1, none⟩) (Kd.R_far (p := ⟨gb302, 0, none⟩) (Kd.R_types HO301.out BK302.out (by decide)) (fun _ hk => hk.2) (.int .i64 t298)) (fun _ hk => hk.2) (.slice Ao30 t299.length co30)) (fun _ hk => ⟨hk.1.1.1, hk.1.2⟩)⟩, ⟨by (with_reducible repeat (first | refine blk_drewN ?_ _ | refine blk_drew ?_ | refine blk_alloc ?_ _)); refine blk_far ?_ NB288_302.out _; refine blk_far ?_ NB288_302.out _; (with_reducible repeat (first | refine blk_drewN ?_ _ | refine blk_drew ?_ | refine blk_alloc ?_ _)); exact BK288.out⟩, ⟨by (with_reducible repeat (first | refine blk_drewN ?_ _ | refine blk_drew ?_ | refine blk_alloc ?_ _)); refine blk_far ?_ NB297_302.out _; refine blk_far ?_ NB297_302.out _; (with_reducible repeat (first | refine blk_drewN ?_ _ | refine blk_drew ?_ | refine blk_alloc ?_ _)); exact BK297.out⟩, ⟨by (with_reducible repeat (first | refine blk_drewN ?_ _ | refine blk_drew ?_ | refine blk_alloc ?_ _)); apply puts_2; (with_reducible repeat (first | refine blk_drewN ?_ _ | refine blk_drew ?_ | refine blk_alloc ?_ _)); exact BK302.out⟩, ⟨mZ⟩⟩
    case rest =>
     clear HC18
     try clear c3
     try clear c10
     try clear c10b0
     try clear c10b1
     try clear c13
     try clear c31
     try clear c31b0
     try clear c31b1
     try clear hcv37
     try clear hcv38
     try clear hcz11_0
     try clear hcz11_1
     try clear hcz12_0
     try clear hcz12_1
     try clear hcz23_0
     try clear hcz23_1
     try clear hcz29_0
     try clear hcz29_1
     try clear hcz34_0
     try clear hcz34_1
     try clear hcz36_0
     try clear hcz36_1
     try clear hcz41_0
     try clear hcz41_1
     try clear hcz43_0
     try clear hcz43_1
     try clear hfz11_0
     try clear hfz11_1
     try clear hfz12_0
     try clear hfz12_1
     try clear hfz23_0
     try clear hfz23_1
     try clear hfz29_0
     try clear hfz29_1
     try clear hfz34_0
     try clear hfz34_1
     try clear hfz36_0
     try clear hfz36_1
     try clear hfz41_0
     try clear hfz41_1
     try clear hfz43_0
     try clear hfz43_1
     obtain ⟨kq, x54_17, rfl, HA, HJ17, HO_3, HO_289001, HO_298001, HO_303001, BK288, BK297, BK302, HB⟩ := hcut
     cases kq with
     | zero => exact absurd HA.out (by simp [columbariumlaw9_BloomTells.j1])
     | succ kj17 =>
      have H := HA.out
      clear HA
      simp only [columbariumlaw9_BloomTells.j1] at H
      by_cases c44 : x54_17 = true
      ·subst c44
       have H1 : (some false) = some r := by rw [if_pos rfl] at H; exact H
       clear H
       have H := H1
       clear H1
       exact absurd ((Option.some.inj H).trans hrt_.out) (by decide)
      ·replace c44 := Bool.eq_false_iff.mpr c44
       subst c44
       have H1 : ((some (([(⟨a2_0, l2_1⟩ : S26), (⟨t293, t294⟩ : S26)] : List (S26)) : List (S26))).bind fun y303 => (columbariumlaw9_BloomTells.l0 kj17 a1 l3 a4 y303 (y303.length : Int) 0)) = some r := by rw [if_neg (show ¬ (false = true) by decide)] at H; exact H
       clear H
       have H := H1
       clear H1
       obtain ⟨y303, hy303⟩ : ∃ y_ : List (S26), y_ = (([(⟨a2_0, l2_1⟩ : S26), (⟨t293, t294⟩ : S26)] : List (S26))) := ⟨_, rfl⟩
       replace H : (columbariumlaw9_BloomTells.l0 kj17 a1 l3 a4 y303 (y303.length : Int) 0) = some r := by first | (rw [hy303]; with_reducible exact H) | (have H2_ := (Option.bind_some _ _).symm.trans H; rw [hy303]; with_reducible exact H2_) | (have H2_ := (Option.bind_some _ _).symm.trans H; with_reducible exact H2_) | with_reducible exact H | (rw [hy303]; exact H) | exact H
       have Ny303 := Aside0.mk hy303
       clear hy303
       have H' := Aside0.mk H
       clear H
       have hnb45 := NB288_297.out
       have hnc45 := NB297_288.out
       have hnb46 := NB288_302.out
       have hnc46 := NB302_288.out
       obtain ⟨hcz47_0, hcz47_1, hfz47_0, hfz47_1⟩ := cells_2 BK288.out
       have hnb48 := NB297_302.out
       have hnc48 := NB302_297.out
       obtain ⟨hcz49_0, hcz49_1, hfz49_0, hfz49_1⟩ := cells_2 BK297.out
       go_wp2_with (first | ((with_reducible refine gate_dst (N := 57) rfl ?_); (try (refine gate_guard (by rfl) ?_; dsimp only)); refine Kd.N_lit k26 _ 26 ?hg (N' := 57) ?hd (xs := ([(⟨a2_0, l2_1⟩ : S26), (⟨t293, t294⟩ : S26)] : List (S26))) (inner := [.int .i64 a2_0, .slice A2_1 l2_1.length c2_1, .int .i64 t293, .slice Ao24 t294.length co24]) (ok := (fun k_ => ((P0_ k_ ∨ P2_1_ k_ ∨ P3_ k_) ∨ w.heap.size ≤ k_) ∧ some k_ ≠ (.slice Ao30 t299.length co30 : Value).ownBlock ∧ k_ ≠ gb288 ∧ k_ ≠ gb297 ∧ k_ ≠ gb302)) (okp := (fun k_ => ((P0_ k_ ∨ P2_1_ k_ ∨ P3_ k_) ∨ w.heap.size ≤ k_) ∧ some k_ ≠ (.slice Ao30 t299.length co30 : Value).ownBlock ∧ k_ ≠ gb288 ∧ k_ ≠ gb297 ∧ k_ ≠ gb302)) ?hr ?hp (fun _ hk => hk) ((show ∀ k_, wc.heap.size ≤ k_ → (fun k_ => ((P0_ k_ ∨ P2_1_ k_ ∨ P3_ k_) ∨ w.heap.size ≤ k_) ∧ some k_ ≠ (.slice Ao30 t299.length co30 : Value).ownBlock ∧ k_ ≠ gb288 ∧ k_ ≠ gb297 ∧ k_ ≠ gb302) k_ from fun k_ hk => ⟨(.inr (Nat.le_trans (below_size mZ) hk)), Kd.fresh' (Kd.R_lt (mR HO_303001.out)) k_ hk, Kd.freshB (mK BK288.out) k_ hk, Kd.freshB (mK BK297.out) k_ hk, Kd.freshB (mK BK302.out) k_ hk⟩) _ (Nat.le_refl _)) (Below.refl _ _) (Nat.le_refl _) (by simp) ?_; (case hd => rfl); (case hg => rfl); (case hr => first | (go_simp; done) | (go_simp; rfl)); (case hp => exact (Reps.c2 (show Kd.FK k26 _ _ (⟨a2_0, l2_1⟩ : S26) [.int .i64 a2_0, .slice A2_1 l2_1.length c2_1] from (k26_mkF _ _ (⟨a2_0, l2_1⟩ : S26) (Kd.V_reads' (Kd.V_mono (ok' := (fun k_ => ((P0_ k_ ∨ P2_1_ k_ ∨ P3_ k_) ∨ w.heap.size ≤ k_) ∧ some k_ ≠ (.slice Ao30 t299.length co30 : Value).ownBlock ∧ k_ ≠ gb288 ∧ k_ ≠ gb297 ∧ k_ ≠ gb302)) (HO_289001.out) (fun k_ hk => ⟨hk.1, ⟨hk.2.2.1, ⟨hk.2.2.2.1, ⟨hk.2.2.2.2.1, hk.2.2.2.2.2⟩⟩⟩⟩))).2.1 (Kd.V_F (by (with_reducible repeat (first | apply Kd.V_alloc | apply Kd.V_drewN | apply Kd.V_drew)); exact (Kd.V_mono (ok' := (fun k_ => ((P0_ k_ ∨ P2_1_ k_ ∨ P3_ k_) ∨ w.heap.size ≤ k_) ∧ some k_ ≠ (.slice Ao30 t299.length co30 : Value).ownBlock ∧ k_ ≠ gb288 ∧ k_ ≠ gb297 ∧ k_ ≠ gb302)) (HO_289001.out) (fun k_ hk => ⟨hk.1, ⟨hk.2.2.1, ⟨hk.2.2.2.1, ⟨hk.2.2.2.2.1, hk.2.2.2.2.2⟩⟩⟩⟩)))))) (Reps.c2 (show Kd.FK k26 _ _ (⟨t293, t294⟩ : S26) [.int .i64 t293, .slice Ao24 t294.length co24] from (k26_mkF _ _ (⟨t293, t294⟩ : S26) (Kd.R_reads' (Kd.R_mono (ok' := (fun k_ => ((P0_ k_ ∨ P2_1_ k_ ∨ P3_ k_) ∨ w.heap.size ≤ k_) ∧ some k_ ≠ (.slice Ao30 t299.length co30 : Value).ownBlock ∧ k_ ≠ gb288 ∧ k_ ≠ gb297 ∧ k_ ≠ gb302)) (Kd.R_types (Kd.R_types (Kd.R_types (HO_298001.out) BK288.out (by decide)) BK297.out (by decide)) BK302.out (by decide)) (fun k_ hk => ⟨(.inr (hk.1.1.1.1)), ⟨hk.1.1.1.2, ⟨hk.1.1.2, ⟨hk.1.2, hk.2⟩⟩⟩⟩))).2.1 (Kd.R_F (by (with_reducible repeat (first | apply Kd.R_alloc | apply Kd.R_drewN | apply Kd.R_drew)); exact (Kd.R_mono (ok' := (fun k_ => ((P0_ k_ ∨ P2_1_ k_ ∨ P3_ k_) ∨ w.heap.size ≤ k_) ∧ some k_ ≠ (.slice Ao30 t299.length co30 : Value).ownBlock ∧ k_ ≠ gb288 ∧ k_ ≠ gb297 ∧ k_ ≠ gb302)) (Kd.R_types (Kd.R_types (Kd.R_types (HO_298001.out) BK288.out (by decide)) BK297.out (by decide)) BK302.out (by decide)) (fun k_ hk => ⟨(.inr (hk.1.1.1.1)), ⟨hk.1.1.1.2, ⟨hk.1.1.2, ⟨hk.1.2, hk.2⟩⟩⟩⟩)))))) (Reps.none _ _)))); intro v304 w50 ho51 hb hg_ hnew_; clear hg_ hnew_; (first | rw [← Ny303.out] at ho51 | (simp only [Int.reduceToNat] at ho51; rw [← Ny303.out] at ho51)); have n0_ := Aside0.mk (Kd.V_elder' (mV HO_3.out) (by first | exact Kd.N_base ho51 | exact Kd.N_base (Kd.R_N ho51)) hb); have n1_ := Aside0.mk (Kd.V_elder' (mV HO_289001.out) (by first | exact Kd.N_base ho51 | exact Kd.N_base (Kd.R_N ho51)) hb); have n2_ := Aside0.mk (Kd.R_below (mR HO_303001.out) hb); have n3_ := Aside0.mk (Kd.N_lower ho51 (below_size mZ)); have n4_ := Aside0.mk (blk_below (mK BK288.out) hb); have n5_ := Aside0.mk (blk_below (mK BK297.out) hb); have n6_ := Aside0.mk (blk_below (mK BK302.out) hb); have n7_ := Aside0.mk (below_step mZ hb); clear HO_3; clear HO_289001; clear HO_303001; clear BK288; clear BK297; clear BK302; clear HB; clear HO_298001; have HO_3 := n0_; have HO_289001 := n1_; have HO_303001 := n2_; have HO305 := n3_; have BK288 := n4_; have BK297 := n5_; have BK302 := n6_; have HB := n7_; clear n0_ n1_ n2_ n3_ n4_ n5_ n6_ n7_; clear hb ho51; obtain ⟨Ao52, co52, eo52⟩ := Kd.N_slice HO305.out; subst eo52))
       try simp only [Act.put, List.setIfInBounds_toArray, List.set_cons_zero, List.set_cons_succ]
       go_loopg [3, 59] kj17 (fun kq v3 v59 w' => ∃ (x3_3 : List Int) (x59_3 : Int), v59 = .int .i64 x59_3 ∧ Aside0 (columbariumlaw9_BloomTells.l0 kq a1 x3_3 a4 y303 (y303.length : Int) x59_3 = some r) ∧ Aside0 (kq ≤ kj17) ∧ Aside0 (Kd.V (Kd.int .u8) 5 w' w.heap.size (fun k_ => ((P0_ k_ ∨ P2_1_ k_ ∨ P3_ k_) ∨ w.heap.size ≤ k_) ∧ some k_ ≠ ((.slice Ao52 y303.length co52) : Value).ownBlock ∧ some k_ ≠ ((.slice Ao30 t299.length co30) : Value).ownBlock ∧ k_ ≠ gb288 ∧ k_ ≠ gb297 ∧ k_ ≠ gb302) v3 x3_3) ∧ Aside0 (Kd.N k26 26 w' w.heap.size (fun k_ => ((P0_ k_ ∨ P2_1_ k_ ∨ P3_ k_) ∨ w.heap.size ≤ k_) ∧ some k_ ≠ ((.slice Ao30 t299.length co30) : Value).ownBlock ∧ k_ ≠ gb288 ∧ k_ ≠ gb297 ∧ k_ ≠ gb302) (.slice Ao52 y303.length co52) y303) ∧ Aside0 (Kd.V (Kd.int .u8) 5 w' w.heap.size (fun k_ => ((P0_ k_ ∨ P2_1_ k_ ∨ P3_ k_) ∨ w.heap.size ≤ k_) ∧ some k_ ≠ ((.slice Ao52 y303.length co52) : Value).ownBlock ∧ some k_ ≠ ((.slice Ao30 t299.length co30) : Value).ownBlock ∧ k_ ≠ gb288 ∧ k_ ≠ gb297 ∧ k_ ≠ gb302) (.slice A2_1 l2_1.length c2_1) l2_1) ∧ Aside0 (Kd.R (Kd.int .u8) 5 w' w.heap.size (fun k_ => (w.heap.size ≤ k_)) (.slice Ao30 t299.length co30) t299) ∧ Aside0 (w'.heap[gb288]? = some (.cells #[.int .i64 a2_0, (.slice A2_1 l2_1.length c2_1)] 26 (0, 0))) ∧ Aside0 (w'.heap[gb297]? = some (.cells #[.int .i64 t293, (.slice Ao24 t294.length co24)] 26 (0, 0))) ∧ Aside0 (w'.heap[gb302]? = some (.cells #[.int .i64 t298, (.slice Ao30 t299.length co30)] 36 (0, 0))) ∧ Aside0 (Below w.heap.size w w'))
       case atStart => exact ⟨(l3), (0), (by first | rfl | (simp; done) | (simp [*]; done)), H', ⟨Nat.le_refl _⟩, ⟨by (with_reducible repeat (first | apply Kd.V_alloc | apply Kd.V_drewN | apply Kd.V_drew)); exact Kd.V_mono HO_3.out (fun _ hk => ⟨hk.1.1, ⟨hk.2, ⟨hk.1.2.2.1, ⟨hk.1.2.2.2.1, ⟨hk.1.2.2.2.2.1, hk.1.2.2.2.2.2⟩⟩⟩⟩⟩)⟩, ⟨mN HO305.out⟩, ⟨by (with_reducible repeat (first | apply Kd.V_alloc | apply Kd.V_drewN | apply Kd.V_drew)); exact Kd.V_mono HO_289001.out (fun _ hk => ⟨hk.1.1, ⟨hk.2, ⟨hk.1.2.2.1, ⟨hk.1.2.2.2.1, ⟨hk.1.2.2.2.2.1, hk.1.2.2.2.2.2⟩⟩⟩⟩⟩)⟩, ⟨by (with_reducible repeat (first | apply Kd.R_alloc | apply Kd.R_drewN | apply Kd.R_drew)); exact Kd.R_mono HO_303001.out (fun _ hk => hk.1)⟩, ⟨mK BK288.out⟩, ⟨mK BK297.out⟩, ⟨mK BK302.out⟩, ⟨mZ⟩⟩
       case round =>
        clear H'
        try clear c2
        try clear c3
        try clear c10
        try clear c10b0
        try clear c10b1
        try clear c13
        try clear c31
        try clear c31b0
        try clear c31b1
        try clear hcv37
        try clear hcv38
        try clear c44
        try clear hcz11_0
        try clear hcz11_1
        try clear hcz12_0
        try clear hcz12_1
        try clear hcz23_0
        try clear hcz23_1
        try clear hcz29_0
        try clear hcz29_1
        try clear hcz34_0
        try clear hcz34_1
        try clear hcz36_0
        try clear hcz36_1
        try clear hcz41_0
        try clear hcz41_1
        try clear hcz43_0
        try clear hcz43_1
        try clear hcz47_0
        try clear hcz47_1
        try clear hcz49_0
        try clear hcz49_1
        try clear hfz11_0
        try clear hfz11_1
        try clear hfz12_0
        try clear hfz12_1
        try clear hfz23_0
        try clear hfz23_1
        try clear hfz29_0
        try clear hfz29_1
        try clear hfz34_0
        try clear hfz34_1
        try clear hfz36_0
        try clear hfz36_1
        try clear hfz41_0
        try clear hfz41_1
        try clear hfz43_0
        try clear hfz43_1
        try clear hfz47_0
        try clear hfz47_1
        try clear hfz49_0
        try clear hfz49_1
        try clear BK288
        try clear BK297
        try clear BK302
        obtain ⟨x3_3, x59_3, rfl, HA, HK3, HO_3, HO_57, HO_289001, HO_303001, BK288, BK297, BK302, HB⟩ := hrel
        cases gk with
        | zero => exact absurd HA.out (by simp [columbariumlaw9_BloomTells.l0])
        | succ k3 =>
         have H := HA.out
         clear HA
         simp only [columbariumlaw9_BloomTells.l0] at H
         by_cases c53 : x59_3 < (y303.length : Int)
         ·rw [if_pos c53] at H
          have c53b0 : decide (x59_3 < (y303.length : Int)) = true := decide_eq_true c53
          clear c53
          by_cases c54 : 0 ≤ x59_3
          ·rw [if_pos c54] at H
           have c54b0 : decide (0 ≤ x59_3) = true := decide_eq_true c54
           clear c54
           by_cases c55 : x59_3 < (y303.length : Int)
           ·rw [if_pos c55] at H
            have c55b0 : decide (x59_3 < (y303.length : Int)) = true := decide_eq_true c55
            clear c55
            replace H := Option.bind_eq_some_iff.mp H
            obtain ⟨⟨t323, t326⟩, A560, H⟩ := H
            replace H : ((columbariumlaw9_in.f ((rd_T26 y303 x59_3).f0) ((rd_T26 y303 x59_3).f1)).bind fun bt327 => ((columbariumref9_Encode.f k3 bt327.1 bt327.2).bind fun bt331 => ((bloom_May.f k3 ((rd_T26 y303 x59_3).f0) ((rd_T26 y303 x59_3).f1) a1).bind fun t335 => ((columbariumlaw9_in.f ((rd_T26 y303 x59_3).f0) ((rd_T26 y303 x59_3).f1)).bind fun bt336 => ((columbariumref9_May.f k3 bt336.1 bt336.2 a1).bind fun t340 => (if (t335 != t340) = true then (some false) else ((bloom_Right.f ((rd_T26 y303 x59_3).f0) ((rd_T26 y303 x59_3).f1)).bind fun t341 => ((columbariumlaw9_in.f ((rd_T26 y303 x59_3).f0) ((rd_T26 y303 x59_3).f1)).bind fun bt342 => ((columbariumref9_Right.f k3 bt342.1 bt342.2).bind fun t346 => (if (t341 != t346) = true then (some false) else (if (strOfNums t323).toList = (strOfNums bt331.1).toList then (if t326 = bt331.2 then ((some (([] : List Int) : List Int)).bind fun y347 => (if y347.length + x3_3.length < 141836999983104 then ((some (y347 ++ x3_3 : List Int)).bind fun y350 => (if y350.length + bt331.1.length < 141836999983104 then (columbariumlaw9_BloomTells.l0 k3 a1 (y350 ++ bt331.1) a4 y303 (y303.length : Int) (wrap64 (x59_3 + 1))) else (none))) else (none))) else (some false)) else (some false)))))))))))) = some r := H
            have A56 := Aside0.mk A560
            clear A560
            replace H := Option.bind_eq_some_iff.mp H
            obtain ⟨⟨t327, t328⟩, A570, H⟩ := H
            replace H : ((columbariumref9_Encode.f k3 t327 t328).bind fun bt331 => ((bloom_May.f k3 ((rd_T26 y303 x59_3).f0) ((rd_T26 y303 x59_3).f1) a1).bind fun t335 => ((columbariumlaw9_in.f ((rd_T26 y303 x59_3).f0) ((rd_T26 y303 x59_3).f1)).bind fun bt336 => ((columbariumref9_May.f k3 bt336.1 bt336.2 a1).bind fun t340 => (if (t335 != t340) = true then (some false) else ((bloom_Right.f ((rd_T26 y303 x59_3).f0) ((rd_T26 y303 x59_3).f1)).bind fun t341 => ((columbariumlaw9_in.f ((rd_T26 y303 x59_3).f0) ((rd_T26 y303 x59_3).f1)).bind fun bt342 => ((columbariumref9_Right.f k3 bt342.1 bt342.2).bind fun t346 => (if (t341 != t346) = true then (some false) else (if (strOfNums t323).toList = (strOfNums bt331.1).toList then (if t326 = bt331.2 then ((some (([] : List Int) : List Int)).bind fun y347 => (if y347.length + x3_3.length < 141836999983104 then ((some (y347 ++ x3_3 : List Int)).bind fun y350 => (if y350.length + bt331.1.length < 141836999983104 then (columbariumlaw9_BloomTells.l0 k3 a1 (y350 ++ bt331.1) a4 y303 (y303.length : Int) (wrap64 (x59_3 + 1))) else (none))) else (none))) else (some false)) else (some false))))))))))) = some r := H
            have A57 := Aside0.mk A570
            clear A570
            replace H := Option.bind_eq_some_iff.mp H
            obtain ⟨⟨t331, t334⟩, A580, H⟩ := H
            replace H : ((bloom_May.f k3 ((rd_T26 y303 x59_3).f0) ((rd_T26 y303 x59_3).f1) a1).bind fun t335 => ((columbariumlaw9_in.f ((rd_T26 y303 x59_3).f0) ((rd_T26 y303 x59_3).f1)).bind fun bt336 => ((columbariumref9_May.f k3 bt336.1 bt336.2 a1).bind fun t340 => (if (t335 != t340) = true then (some false) else ((bloom_Right.f ((rd_T26 y303 x59_3).f0) ((rd_T26 y303 x59_3).f1)).bind fun t341 => ((columbariumlaw9_in.f ((rd_T26 y303 x59_3).f0) ((rd_T26 y303 x59_3).f1)).bind fun bt342 => ((columbariumref9_Right.f k3 bt342.1 bt342.2).bind fun t346 => (if (t341 != t346) = true then (some false) else (if (strOfNums t323).toList = (strOfNums t331).toList then (if t326 = t334 then ((some (([] : List Int) : List Int)).bind fun y347 => (if y347.length + x3_3.length < 141836999983104 then ((some (y347 ++ x3_3 : List Int)).bind fun y350 => (if y350.length + t331.length < 141836999983104 then (columbariumlaw9_BloomTells.l0 k3 a1 (y350 ++ t331) a4 y303 (y303.length : Int) (wrap64 (x59_3 + 1))) else (none))) else (none))) else (some false)) else (some false)))))))))) = some r := H
            have A58 := Aside0.mk A580
            clear A580
            replace H := Option.bind_eq_some_iff.mp H
            obtain ⟨t335, A590, H⟩ := H
            replace H : ((columbariumlaw9_in.f ((rd_T26 y303 x59_3).f0) ((rd_T26 y303 x59_3).f1)).bind fun bt336 => ((columbariumref9_May.f k3 bt336.1 bt336.2 a1).bind fun t340 => (if (t335 != t340) = true then (some false) else ((bloom_Right.f ((rd_T26 y303 x59_3).f0) ((rd_T26 y303 x59_3).f1)).bind fun t341 => ((columbariumlaw9_in.f ((rd_T26 y303 x59_3).f0) ((rd_T26 y303 x59_3).f1)).bind fun bt342 => ((columbariumref9_Right.f k3 bt342.1 bt342.2).bind fun t346 => (if (t341 != t346) = true then (some false) else (if (strOfNums t323).toList = (strOfNums t331).toList then (if t326 = t334 then ((some (([] : List Int) : List Int)).bind fun y347 => (if y347.length + x3_3.length < 141836999983104 then ((some (y347 ++ x3_3 : List Int)).bind fun y350 => (if y350.length + t331.length < 141836999983104 then (columbariumlaw9_BloomTells.l0 k3 a1 (y350 ++ t331) a4 y303 (y303.length : Int) (wrap64 (x59_3 + 1))) else (none))) else (none))) else (some false)) else (some false))))))))) = some r := H
            have A59 := Aside0.mk A590
            clear A590
            replace H := Option.bind_eq_some_iff.mp H
            obtain ⟨⟨t336, t337⟩, A600, H⟩ := H
            replace H : ((columbariumref9_May.f k3 t336 t337 a1).bind fun t340 => (if (t335 != t340) = true then (some false) else ((bloom_Right.f ((rd_T26 y303 x59_3).f0) ((rd_T26 y303 x59_3).f1)).bind fun t341 => ((columbariumlaw9_in.f ((rd_T26 y303 x59_3).f0) ((rd_T26 y303 x59_3).f1)).bind fun bt342 => ((columbariumref9_Right.f k3 bt342.1 bt342.2).bind fun t346 => (if (t341 != t346) = true then (some false) else (if (strOfNums t323).toList = (strOfNums t331).toList then (if t326 = t334 then ((some (([] : List Int) : List Int)).bind fun y347 => (if y347.length + x3_3.length < 141836999983104 then ((some (y347 ++ x3_3 : List Int)).bind fun y350 => (if y350.length + t331.length < 141836999983104 then (columbariumlaw9_BloomTells.l0 k3 a1 (y350 ++ t331) a4 y303 (y303.length : Int) (wrap64 (x59_3 + 1))) else (none))) else (none))) else (some false)) else (some false)))))))) = some r := H
            have A60 := Aside0.mk A600
            clear A600
            replace H := Option.bind_eq_some_iff.mp H
            obtain ⟨t340, A610, H⟩ := H
            replace H : (if (t335 != t340) = true then (some false) else ((bloom_Right.f ((rd_T26 y303 x59_3).f0) ((rd_T26 y303 x59_3).f1)).bind fun t341 => ((columbariumlaw9_in.f ((rd_T26 y303 x59_3).f0) ((rd_T26 y303 x59_3).f1)).bind fun bt342 => ((columbariumref9_Right.f k3 bt342.1 bt342.2).bind fun t346 => (if (t341 != t346) = true then (some false) else (if (strOfNums t323).toList = (strOfNums t331).toList then (if t326 = t334 then ((some (([] : List Int) : List Int)).bind fun y347 => (if y347.length + x3_3.length < 141836999983104 then ((some (y347 ++ x3_3 : List Int)).bind fun y350 => (if y350.length + t331.length < 141836999983104 then (columbariumlaw9_BloomTells.l0 k3 a1 (y350 ++ t331) a4 y303 (y303.length : Int) (wrap64 (x59_3 + 1))) else (none))) else (none))) else (some false)) else (some false))))))) = some r := H
            have A61 := Aside0.mk A610
            clear A610
            by_cases c62 : (t335 != t340) = true
            ·rw [if_pos c62] at H
             have c62b0 : (t335 != t340) = true := c62
             (try (have c62b1 : decide (t335 = t340) = false := by simpa using c62))
             (try (have c62b2 : (t335 == t340) = false := by simpa using c62))
             (try (have c62b3 : ¬ (t335 = t340) := by simpa using c62))
             clear c62
             exact absurd ((Option.some.inj H).trans hrt_.out) (by decide)
            ·rw [if_neg c62] at H
             have c62b0 : (t335 != t340) = false := by simpa using c62
             (try (have c62b1 : decide (t335 = t340) = true := by simpa using c62))
             (try (have c62b2 : (t335 == t340) = true := by simpa using c62))
             clear c62
             replace H := Option.bind_eq_some_iff.mp H
             obtain ⟨t341, A630, H⟩ := H
             replace H : ((columbariumlaw9_in.f ((rd_T26 y303 x59_3).f0) ((rd_T26 y303 x59_3).f1)).bind fun bt342 => ((columbariumref9_Right.f k3 bt342.1 bt342.2).bind fun t346 => (if (t341 != t346) = true then (some false) else (if (strOfNums t323).toList = (strOfNums t331).toList then (if t326 = t334 then ((some (([] : List Int) : List Int)).bind fun y347 => (if y347.length + x3_3.length < 141836999983104 then ((some (y347 ++ x3_3 : List Int)).bind fun y350 => (if y350.length + t331.length < 141836999983104 then (columbariumlaw9_BloomTells.l0 k3 a1 (y350 ++ t331) a4 y303 (y303.length : Int) (wrap64 (x59_3 + 1))) else (none))) else (none))) else (some false)) else (some false))))) = some r := H
             have A63 := Aside0.mk A630
             clear A630
             replace H := Option.bind_eq_some_iff.mp H
             obtain ⟨⟨t342, t343⟩, A640, H⟩ := H
             replace H : ((columbariumref9_Right.f k3 t342 t343).bind fun t346 => (if (t341 != t346) = true then (some false) else (if (strOfNums t323).toList = (strOfNums t331).toList then (if t326 = t334 then ((some (([] : List Int) : List Int)).bind fun y347 => (if y347.length + x3_3.length < 141836999983104 then ((some (y347 ++ x3_3 : List Int)).bind fun y350 => (if y350.length + t331.length < 141836999983104 then (columbariumlaw9_BloomTells.l0 k3 a1 (y350 ++ t331) a4 y303 (y303.length : Int) (wrap64 (x59_3 + 1))) else (none))) else (none))) else (some false)) else (some false)))) = some r := H
             have A64 := Aside0.mk A640
             clear A640
             replace H := Option.bind_eq_some_iff.mp H
             obtain ⟨t346, A650, H⟩ := H
             replace H : (if (t341 != t346) = true then (some false) else (if (strOfNums t323).toList = (strOfNums t331).toList then (if t326 = t334 then ((some (([] : List Int) : List Int)).bind fun y347 => (if y347.length + x3_3.length < 141836999983104 then ((some (y347 ++ x3_3 : List Int)).bind fun y350 => (if y350.length + t331.length < 141836999983104 then (columbariumlaw9_BloomTells.l0 k3 a1 (y350 ++ t331) a4 y303 (y303.length : Int) (wrap64 (x59_3 + 1))) else (none))) else (none))) else (some false)) else (some false))) = some r := H
             have A65 := Aside0.mk A650
             clear A650
             by_cases c66 : (t341 != t346) = true
             ·rw [if_pos c66] at H
              have c66b0 : (t341 != t346) = true := c66
              (try (have c66b1 : decide (t341 = t346) = false := by simpa using c66))
              (try (have c66b2 : (t341 == t346) = false := by simpa using c66))
              (try (have c66b3 : ¬ (t341 = t346) := by simpa using c66))
              clear c66
              exact absurd ((Option.some.inj H).trans hrt_.out) (by decide)
             ·rw [if_neg c66] at H
              have c66b0 : (t341 != t346) = false := by simpa using c66
              (try (have c66b1 : decide (t341 = t346) = true := by simpa using c66))
              (try (have c66b2 : (t341 == t346) = true := by simpa using c66))
              clear c66
              by_cases c67 : (strOfNums t323).toList = (strOfNums t331).toList
              ·rw [if_pos c67] at H
               have c67b0 : ((strOfNums t323).toList == (strOfNums t331).toList) = true := beq_iff_eq.mpr c67
               have c67b1 : ((strOfNums t323).toList != (strOfNums t331).toList) = false := bne_eq_false_iff_eq.mpr c67
               clear c67
               by_cases c68 : t326 = t334
               ·rw [if_pos c68] at H
                have c68b0 : (t326 == t334) = true := beq_iff_eq.mpr c68
                have c68b1 : (t326 != t334) = false := bne_eq_false_iff_eq.mpr c68
                clear c68
                obtain ⟨y347, hy347⟩ : ∃ y_ : List Int, y_ = (([] : List Int)) := ⟨_, rfl⟩
                replace H : (if y347.length + x3_3.length < 141836999983104 then ((some (y347 ++ x3_3 : List Int)).bind fun y350 => (if y350.length + t331.length < 141836999983104 then (columbariumlaw9_BloomTells.l0 k3 a1 (y350 ++ t331) a4 y303 (y303.length : Int) (wrap64 (x59_3 + 1))) else (none))) else (none)) = some r := by first | (rw [hy347]; with_reducible exact H) | (have H2_ := (Option.bind_some _ _).symm.trans H; rw [hy347]; with_reducible exact H2_) | (have H2_ := (Option.bind_some _ _).symm.trans H; with_reducible exact H2_) | with_reducible exact H | (rw [hy347]; exact H) | exact H
                have Ny347 := Aside0.mk hy347
                clear hy347
                by_cases c69 : y347.length + x3_3.length < 141836999983104
                ·rw [if_pos c69] at H
                 have LMc69 := Aside0.mk c69
                 clear c69
                 obtain ⟨y350, hy350⟩ : ∃ y_ : List Int, y_ = (y347 ++ x3_3) := ⟨_, rfl⟩
                 replace H : (if y350.length + t331.length < 141836999983104 then (columbariumlaw9_BloomTells.l0 k3 a1 (y350 ++ t331) a4 y303 (y303.length : Int) (wrap64 (x59_3 + 1))) else (none)) = some r := by first | (rw [hy350]; with_reducible exact H) | (have H2_ := (Option.bind_some _ _).symm.trans H; rw [hy350]; with_reducible exact H2_) | (have H2_ := (Option.bind_some _ _).symm.trans H; with_reducible exact H2_) | with_reducible exact H | (rw [hy350]; exact H) | exact H
                 have Ny350 := Aside0.mk hy350
                 clear hy350
                 by_cases c70 : y350.length + t331.length < 141836999983104
                 ·rw [if_pos c70] at H
                  have LMc70 := Aside0.mk c70
                  clear c70
                  obtain ⟨y353, hy353⟩ : ∃ y_ : List Int, y_ = (y350 ++ t331) := ⟨_, rfl⟩
                  replace H : (columbariumlaw9_BloomTells.l0 k3 a1 y353 a4 y303 (y303.length : Int) (wrap64 (x59_3 + 1))) = some r := by first | (rw [hy353]; with_reducible exact H) | (have H2_ := (Option.bind_some _ _).symm.trans H; rw [hy353]; with_reducible exact H2_) | (have H2_ := (Option.bind_some _ _).symm.trans H; with_reducible exact H2_) | with_reducible exact H | (rw [hy353]; exact H) | exact H
                  have Ny353 := Aside0.mk hy353
                  clear hy353
                  have H' := Aside0.mk H
                  clear H
                  have p321 : 0 ≤ (x59_3 : Int) := of_decide_eq_true (by first | (with_reducible assumption) | assumption)
                  have q321 : x59_3 < (y303.length : Int) := of_decide_eq_true (by first | (with_reducible assumption) | assumption)
                  obtain ⟨ad321, A321_1, c321_1, e321, hx321_0, hx321_1, hl321_1, hi321_1⟩ := at_T26 (Kd.N_reads' HO_57.out).2.2 x59_3 p321 q321
                  cases e321
                  obtain ⟨ce321, hce321, hMe321, hcc321⟩ := Kd.N_get HO_57.out z26 x59_3 p321 (by first | exact q321 | exact of_decide_eq_true (by first | (with_reducible assumption) | assumption) | (have e_ := (Kd.N_reads' HO_57.out).1; omega))
                  obtain ⟨ua321_1, uc321_1, rfl, ul321_1, ge321_1⟩ := k26_openF hMe321
                  have hv321_1 := hcc321 1 _ rfl
                  rw [add_field _ _ 1 (by omega)] at hv321_1
                  replace hv321_1 := Option.some.inj (hv321_1.symm.trans hx321_1)
                  injection hv321_1 with hva_ hvn_ hvc_
                  rw [hva_] at ge321_1
                  rw [hvc_] at ul321_1
                  have HL321_1 := Aside0.mk (show Kd.V (Kd.int .u8) 5 _ w.heap.size _ _ ((rd_T26 y303 x59_3).f1) from Kd.V_mk ul321_1 ge321_1)
                  clear hva_ hvn_ hvc_ ge321_1 ul321_1
                  clear hcc321 hce321
                  have HR321_1 := Aside0.mk hi321_1
                  have HC321_1 := Aside0.mk hl321_1
                  clear hi321_1 hl321_1
                  replace p321 := eq_true p321
                  replace q321 := eq_true q321
                  try go_wp2_with (first | ((with_reducible refine gate_dst (N := 14) rfl ?_); (try (refine gate_guard (by rfl) ?_; dsimp only)); refine box_event ?hg (N := 14) ?hd (cs := #[.int .i64 0, .slice none 0 0]) (t := 26) ?hr ?_; (case hd => rfl); (case hg => rfl); (case hr => first | (go_simp; done) | (go_simp; rfl)); intro gb322 hg w71 hbox hb; have n0_ := Aside0.mk (Kd.V_below (Kd.V_elderB (mV HO_3.out) gb322 (Nat.le_of_eq hg.symm)) hb); have n1_ := Aside0.mk (Kd.N_below (Kd.N_elderB (mN HO_57.out) gb322 (Nat.le_of_eq hg.symm)) hb); have n2_ := Aside0.mk (Kd.V_below (Kd.V_elderB (mV HO_289001.out) gb322 (Nat.le_of_eq hg.symm)) hb); have n3_ := Aside0.mk (Kd.R_below (mR HO_303001.out) hb); have n4_ := Aside0.mk (Kd.V_below (Kd.V_elderB (mV HL321_1.out) gb322 (Nat.le_of_eq hg.symm)) hb); have n5_ := Aside0.mk (blk_below (mK BK288.out) hb); have n6_ := Aside0.mk (blk_below (mK BK297.out) hb); have n7_ := Aside0.mk (blk_below (mK BK302.out) hb); have n8_ := Aside0.mk (Kd.C_below (by repeat (first | (with_reducible exact HR321_1.out) | (with_reducible refine Kd.C_alloc ?_ _) | (with_reducible refine Kd.C_drewN ?_ _) | (with_reducible refine Kd.C_drew ?_) | exact HR321_1.out)) hb); have n9_ := Aside0.mk (below_step mZ hb); have n10_ := Aside0.mk (hbox); have n11_ := Aside0.mk ((by rw [hg]; exact (below_size mZ) : w.heap.size ≤ gb322)); have n12_ := n11_; have n13_ := Aside0.mk ((by rw [hg]; exact Nat.ne_of_lt (blk_lt (mK BK288.out)) : gb288 ≠ gb322)); have n14_ := Aside0.mk ((by rw [hg]; exact Nat.ne_of_gt (blk_lt (mK BK288.out)) : gb322 ≠ gb288)); have n15_ := Aside0.mk ((by rw [hg]; exact Nat.ne_of_lt (blk_lt (mK BK297.out)) : gb297 ≠ gb322)); have n16_ := Aside0.mk ((by rw [hg]; exact Nat.ne_of_gt (blk_lt (mK BK297.out)) : gb322 ≠ gb297)); have n17_ := Aside0.mk ((by rw [hg]; exact Nat.ne_of_lt (blk_lt (mK BK302.out)) : gb302 ≠ gb322)); have n18_ := Aside0.mk ((by rw [hg]; exact Nat.ne_of_gt (blk_lt (mK BK302.out)) : gb322 ≠ gb302)); clear HO_3; clear HO_57; clear HO_289001; clear HO_303001; clear HL321_1; clear BK288; clear BK297; clear BK302; clear HR321_1; clear HB; have HO_3 := n0_; have HO_57 := n1_; have HO_289001 := n2_; have HO_303001 := n3_; have HL321_1 := n4_; have BK288 := n5_; have BK297 := n6_; have BK302 := n7_; have HR321_1 := n8_; have HB := n9_; have BK322 := n10_; have GW322 := n11_; have GE322 := n12_; have NB288_322 := n13_; have NB322_288 := n14_; have NB297_322 := n15_; have NB322_297 := n16_; have NB302_322 := n17_; have NB322_302 := n18_; clear n0_ n1_ n2_ n3_ n4_ n5_ n6_ n7_ n8_ n9_ n10_ n11_ n12_ n13_ n14_ n15_ n16_ n17_ n18_; clear hb hbox hg; have hnb72 := NB322_288.out; have hnc72 := NB288_322.out; have hnb73 := NB322_297.out; have hnc73 := NB297_322.out; have hnb74 := NB322_302.out; have hnc74 := NB302_322.out; obtain ⟨hcz75_0, hcz75_1, hfz75_0, hfz75_1⟩ := cells_2 BK322.out) | ((with_reducible refine gate_callee (f := 16) rfl ?_); refine goesL_ (some 65) rfl rfl Try.func16 (by kernel_rfl) rfl #[.agg #[.int .i64 ((rd_T26 y303 x59_3).f0), .slice A321_1 ((rd_T26 y303 x59_3).f1).length c321_1]] rfl (by (try simp only [List.map_toArray, List.map_cons, List.map_nil]); first | done | rfl | (simp only [List.length_drop, List.length_take]; rfl)) ?_; (with_reducible refine (bloom_Encode.calls k3 ((rd_T26 y303 x59_3).f0) _ _ ((rd_T26 y303 x59_3).f1) t323 t326 _ ?side1 ?side2 A56.out).mono ?_); (case side1 => repeat (first | exact ((Kd.V_reads' (by (with_reducible repeat (first | apply Kd.V_alloc | apply Kd.V_drewN | apply Kd.V_drew)); exact (Kd.V_mono (Kd.V_far (p := ⟨gb322, 1, none⟩) (Kd.V_far (p := ⟨gb322, 0, none⟩) (Kd.V_mono HL321_1.out (fun k_ hk => (⟨hk, hk.2⟩ : _ ∧ k_ ≠ gb322))) (fun _ hk => hk.2) (.int .i64 ((rd_T26 y303 x59_3).f0))) (fun _ hk => hk.2) (.slice A321_1 ((rd_T26 y303 x59_3).f1).length c321_1)) (fun _ h_ => h_.1)))).2.2) | (with_reducible refine Kd.C_alloc ?_ _) | (with_reducible refine Kd.C_drewN ?_ _) | (with_reducible refine Kd.C_drew ?_))); (case side2 => first | exact HC321_1.out | exact Kd.V_mono HC321_1.out (fun k_ hk_ => by grind)); rintro e w76 ⟨v324, rfl, ho0, hb⟩; refine ⟨_, rfl, ?_⟩; have n0_ := Aside0.mk (Kd.V_elder' (by (with_reducible repeat (first | apply Kd.V_alloc | apply Kd.V_drewN | apply Kd.V_drew)); exact (Kd.V_mono (Kd.V_far (p := ⟨gb322, 1, none⟩) (Kd.V_far (p := ⟨gb322, 0, none⟩) (Kd.V_mono HO_3.out (fun k_ hk => (⟨hk, hk.2⟩ : _ ∧ k_ ≠ gb322))) (fun _ hk => hk.2) (.int .i64 ((rd_T26 y303 x59_3).f0))) (fun _ hk => hk.2) (.slice A321_1 ((rd_T26 y303 x59_3).f1).length c321_1)) (fun _ h_ => h_.1))) (Kd.R_base ho0) hb); have n1_ := Aside0.mk (Kd.N_elder' (by (with_reducible repeat (first | apply Kd.N_alloc | apply Kd.N_drewN | apply Kd.N_drew)); exact (Kd.N_mono (Kd.N_far (p := ⟨gb322, 1, none⟩) (Kd.N_far (p := ⟨gb322, 0, none⟩) (Kd.N_mono HO_57.out (fun k_ hk => (⟨hk, hk.2⟩ : _ ∧ k_ ≠ gb322))) (fun _ hk => hk.2) (.int .i64 ((rd_T26 y303 x59_3).f0))) (fun _ hk => hk.2) (.slice A321_1 ((rd_T26 y303 x59_3).f1).length c321_1)) (fun _ h_ => h_.1))) (Kd.R_base ho0) hb); have n2_ := Aside0.mk (Kd.V_elder' (by (with_reducible repeat (first | apply Kd.V_alloc | apply Kd.V_drewN | apply Kd.V_drew)); exact (Kd.V_mono (Kd.V_far (p := ⟨gb322, 1, none⟩) (Kd.V_far (p := ⟨gb322, 0, none⟩) (Kd.V_mono HO_289001.out (fun k_ hk => (⟨hk, hk.2⟩ : _ ∧ k_ ≠ gb322))) (fun _ hk => hk.2) (.int .i64 ((rd_T26 y303 x59_3).f0))) (fun _ hk => hk.2) (.slice A321_1 ((rd_T26 y303 x59_3).f1).length c321_1)) (fun _ h_ => h_.1))) (Kd.R_base ho0) hb); have n3_ := Aside0.mk (Kd.R_elder' (by (with_reducible repeat (first | apply Kd.R_alloc | apply Kd.R_drewN | apply Kd.R_drew)); exact (Kd.R_mono (Kd.R_far (p := ⟨gb322, 1, none⟩) (Kd.R_far (p := ⟨gb322, 0, none⟩) (Kd.R_types HO_303001.out BK322.out (by decide)) (fun _ hk => hk.2) (.int .i64 ((rd_T26 y303 x59_3).f0))) (fun _ hk => hk.2) (.slice A321_1 ((rd_T26 y303 x59_3).f1).length c321_1)) (fun _ h_ => h_.1))) (Kd.R_base ho0) hb); have n4_ := Aside0.mk (Kd.V_elder' (by (with_reducible repeat (first | apply Kd.V_alloc | apply Kd.V_drewN | apply Kd.V_drew)); exact (Kd.V_mono (Kd.V_far (p := ⟨gb322, 1, none⟩) (Kd.V_far (p := ⟨gb322, 0, none⟩) (Kd.V_mono HL321_1.out (fun k_ hk => (⟨hk, hk.2⟩ : _ ∧ k_ ≠ gb322))) (fun _ hk => hk.2) (.int .i64 ((rd_T26 y303 x59_3).f0))) (fun _ hk => hk.2) (.slice A321_1 ((rd_T26 y303 x59_3).f1).length c321_1)) (fun _ h_ => h_.1))) (Kd.R_base ho0) hb); have n5_ := Aside0.mk (Kd.R_lower (Kd.R_new' (Kd.R_newM (M := fun k_ => (w.heap.size ≤ k_)) ho0 (below_size mZ) (fun k_ h_ => h_)) (Kd.R_lt (by (with_reducible repeat (first | apply Kd.R_alloc | apply Kd.R_drewN | apply Kd.R_drew)); exact (Kd.R_mono (Kd.R_far (p := ⟨gb322, 1, none⟩) (Kd.R_far (p := ⟨gb322, 0, none⟩) (Kd.R_types HO_303001.out BK322.out (by decide)) (fun _ hk => hk.2) (.int .i64 ((rd_T26 y303 x59_3).f0))) (fun _ hk => hk.2) (.slice A321_1 ((rd_T26 y303 x59_3).f1).length c321_1)) (fun _ h_ => h_.1))))) (below_size mZ)); have n6_ := Aside0.mk (blk_below (g := gb288) (o := .cells #[.int .i64 a2_0, .slice A2_1 l2_1.length c2_1] 26 (0, 0)) (by (with_reducible repeat (first | refine blk_drewN ?_ _ | refine blk_drew ?_ | refine blk_alloc ?_ _)); refine blk_far ?_ NB288_322.out _; refine blk_far ?_ NB288_322.out _; (with_reducible repeat (first | refine blk_drewN ?_ _ | refine blk_drew ?_ | refine blk_alloc ?_ _)); exact BK288.out) hb); have n7_ := Aside0.mk (blk_below (g := gb297) (o := .cells #[.int .i64 t293, .slice Ao24 t294.length co24] 26 (0, 0)) (by (with_reducible repeat (first | refine blk_drewN ?_ _ | refine blk_drew ?_ | refine blk_alloc ?_ _)); refine blk_far ?_ NB297_322.out _; refine blk_far ?_ NB297_322.out _; (with_reducible repeat (first | refine blk_drewN ?_ _ | refine blk_drew ?_ | refine blk_alloc ?_ _)); exact BK297.out) hb); have n8_ := Aside0.mk (blk_below (g := gb302) (o := .cells #[.int .i64 t298, .slice Ao30 t299.length co30] 36 (0, 0)) (by (with_reducible repeat (first | refine blk_drewN ?_ _ | refine blk_drew ?_ | refine blk_alloc ?_ _)); refine blk_far ?_ NB302_322.out _; refine blk_far ?_ NB302_322.out _; (with_reducible repeat (first | refine blk_drewN ?_ _ | refine blk_drew ?_ | refine blk_alloc ?_ _)); exact BK302.out) hb); have n9_ := Aside0.mk (Kd.C_below ((Kd.V_reads' (by (with_reducible repeat (first | apply Kd.V_alloc | apply Kd.V_drewN | apply Kd.V_drew)); exact (Kd.V_mono (Kd.V_far (p := ⟨gb322, 1, none⟩) (Kd.V_far (p := ⟨gb322, 0, none⟩) (Kd.V_mono HL321_1.out (fun k_ hk => (⟨hk, hk.2⟩ : _ ∧ k_ ≠ gb322))) (fun _ hk => hk.2) (.int .i64 ((rd_T26 y303 x59_3).f0))) (fun _ hk => hk.2) (.slice A321_1 ((rd_T26 y303 x59_3).f1).length c321_1)) (fun _ h_ => h_.1)))).2.2) hb); have n10_ := Aside0.mk (blk_below (g := gb322) (o := .cells #[.int .i64 ((rd_T26 y303 x59_3).f0), .slice A321_1 ((rd_T26 y303 x59_3).f1).length c321_1] 26 (0, 0)) (by (with_reducible repeat (first | refine blk_drewN ?_ _ | refine blk_drew ?_ | refine blk_alloc ?_ _)); apply puts_2; (with_reducible repeat (first | refine blk_drewN ?_ _ | refine blk_drew ?_ | refine blk_alloc ?_ _)); exact BK322.out) hb); have n11_ := Aside0.mk (below_step mZ hb); clear HO_3; clear HO_57; clear HO_289001; clear HO_303001; clear HL321_1; clear BK288; clear BK297; clear BK302; clear HR321_1; clear BK322; clear HB; have HO_3 := n0_; have HO_57 := n1_; have HO_289001 := n2_; have HO_303001 := n3_; have HL321_1 := n4_; have HO325 := n5_; have BK288 := n6_; have BK297 := n7_; have BK302 := n8_; have HR321_1 := n9_; have BK322 := n10_; have HB := n11_; clear n0_ n1_ n2_ n3_ n4_ n5_ n6_ n7_ n8_ n9_ n10_ n11_; (try clear hb); (try clear hb2); (try clear hk); (try clear hi); (try clear ho0); obtain ⟨hcz77_0, hcz77_1, hfz77_0, hfz77_1⟩ := cells_2 BK322.out) | ((with_reducible refine gate_callee (f := 18) rfl ?_); refine goesL_ (some 70) rfl rfl Try.func18 (by kernel_rfl) rfl #[.agg #[.int .i64 ((rd_T26 y303 x59_3).f0), .slice A321_1 ((rd_T26 y303 x59_3).f1).length c321_1]] rfl (by (try simp only [List.map_toArray, List.map_cons, List.map_nil]); first | done | rfl | (simp only [List.length_drop, List.length_take]; rfl)) ?_; (with_reducible refine (columbariumlaw9_in.calls ((rd_T26 y303 x59_3).f0) (fun k_ => ((((((P0_ k_ ∨ P2_1_ k_ ∨ P3_ k_) ∨ w.heap.size ≤ k_) ∧ (some k_ ≠ (.slice Ao30 t299.length co30 : Value).ownBlock ∧ (k_ ≠ gb288 ∧ (k_ ≠ gb297 ∧ k_ ≠ gb302)))) ∧ some k_ ≠ (.slice (some ad321) y303.length co52 : Value).ownBlock) ∧ k_ ≠ gb322) ∧ some k_ ≠ (v324 : Value).ownBlock)) _ _ ((rd_T26 y303 x59_3).f1) t327 t328 _ ?side1 A57.out).mono ?_); (case side1 => first | exact HL321_1.out | exact Kd.V_mono HL321_1.out (fun k_ hk_ => by grind)); rintro e w78 ⟨v329, rfl, ho0, hb⟩; refine ⟨_, rfl, ?_⟩; have n0_ := Aside0.mk (Kd.V_below (mV HO_3.out) hb); have n1_ := Aside0.mk (Kd.N_below (mN HO_57.out) hb); have n2_ := Aside0.mk (Kd.V_below (mV HO_289001.out) hb); have n3_ := Aside0.mk (Kd.R_below (mR HO_303001.out) hb); have n4_ := Aside0.mk (Kd.V_below (mV HL321_1.out) hb); have n5_ := Aside0.mk (Kd.R_below (mR HO325.out) hb); have n6_ := Aside0.mk (Kd.V_lower (Kd.V_mono (ok' := fun k_ => ((P0_ k_ ∨ P2_1_ k_ ∨ P3_ k_) ∨ w.heap.size ≤ k_) ∧ some k_ ≠ (.slice (some ad321) y303.length co52 : Value).ownBlock ∧ some k_ ≠ (.slice Ao30 t299.length co30 : Value).ownBlock ∧ some k_ ≠ (v324 : Value).ownBlock ∧ k_ ≠ gb288 ∧ k_ ≠ gb297 ∧ k_ ≠ gb302 ∧ k_ ≠ gb322) ho0 (fun k_ hk_ => ⟨Or.elim hk_ (fun hs_ => hs_.1.1.1.1) (fun hn_ => (.inr (Nat.le_trans (below_size mZ) hn_))), Or.elim hk_ (fun hs_ => hs_.1.1.2) (fun hn_ => (Kd.fresh' (Kd.N_lt (mN HO_57.out)) k_ hn_)), Or.elim hk_ (fun hs_ => hs_.1.1.1.2.1) (fun hn_ => (Kd.fresh' (Kd.R_lt (mR HO_303001.out)) k_ hn_)), Or.elim hk_ (fun hs_ => hs_.2) (fun hn_ => (Kd.fresh' (Kd.R_lt (mR HO325.out)) k_ hn_)), Or.elim hk_ (fun hs_ => hs_.1.1.1.2.2.1) (fun hn_ => (Kd.freshB (mK BK288.out) k_ hn_)), Or.elim hk_ (fun hs_ => hs_.1.1.1.2.2.2.1) (fun hn_ => (Kd.freshB (mK BK297.out) k_ hn_)), Or.elim hk_ (fun hs_ => hs_.1.1.1.2.2.2.2) (fun hn_ => (Kd.freshB (mK BK302.out) k_ hn_)), Or.elim hk_ (fun hs_ => hs_.1.2) (fun hn_ => (Kd.freshB (mK BK322.out) k_ hn_))⟩)) (below_size mZ)); have n7_ := Aside0.mk (blk_below (mK BK288.out) hb); have n8_ := Aside0.mk (blk_below (mK BK297.out) hb); have n9_ := Aside0.mk (blk_below (mK BK302.out) hb); have n10_ := Aside0.mk (Kd.C_below (by repeat (first | (with_reducible exact HR321_1.out) | (with_reducible refine Kd.C_alloc ?_ _) | (with_reducible refine Kd.C_drewN ?_ _) | (with_reducible refine Kd.C_drew ?_) | exact HR321_1.out)) hb); have n11_ := Aside0.mk (blk_below (mK BK322.out) hb); have n12_ := Aside0.mk (below_step mZ hb); clear HO_3; clear HO_57; clear HO_289001; clear HO_303001; clear HL321_1; clear HO325; clear BK288; clear BK297; clear BK302; clear HR321_1; clear BK322; clear HB; have HO_3 := n0_; have HO_57 := n1_; have HO_289001 := n2_; have HO_303001 := n3_; have HL321_1 := n4_; have HO325 := n5_; have HO330 := n6_; have BK288 := n7_; have BK297 := n8_; have BK302 := n9_; have HR321_1 := n10_; have BK322 := n11_; have HB := n12_; clear n0_ n1_ n2_ n3_ n4_ n5_ n6_ n7_ n8_ n9_ n10_ n11_ n12_; (try clear hb); (try clear hb2); (try clear hk); (try clear hi); (try clear ho0); obtain ⟨Ao79, co79, eo79⟩ := Kd.V_slice HO330.out; subst eo79) | ((with_reducible refine gate_callee (f := 17) rfl ?_); refine goesL_ (some 71) rfl rfl Try.func17 (by kernel_rfl) rfl #[.agg #[.int .i64 t327, .slice Ao79 t328.length co79]] rfl (by (try simp only [List.map_toArray, List.map_cons, List.map_nil]); first | done | rfl | (simp only [List.length_drop, List.length_take]; rfl)) ?_; (with_reducible refine (columbariumref9_Encode.calls k3 t327 _ _ t328 t331 t334 _ ?side1 ?side2 A58.out).mono ?_); (case side1 => repeat (first | exact (Kd.V_reads' HO330.out).2.2 | (with_reducible refine Kd.C_alloc ?_ _) | (with_reducible refine Kd.C_drewN ?_ _) | (with_reducible refine Kd.C_drew ?_))); (case side2 => exact (Kd.V_reads' HO330.out).2.1); rintro e w80 ⟨v332, rfl, ho0, hb⟩; refine ⟨_, rfl, ?_⟩; have n0_ := Aside0.mk (Kd.V_elder' (mV HO_3.out) (Kd.R_base ho0) hb); have n1_ := Aside0.mk (Kd.N_elder' (mN HO_57.out) (Kd.R_base ho0) hb); have n2_ := Aside0.mk (Kd.V_elder' (mV HO_289001.out) (Kd.R_base ho0) hb); have n3_ := Aside0.mk (Kd.R_elder' (mR HO_303001.out) (Kd.R_base ho0) hb); have n4_ := Aside0.mk (Kd.V_elder' (mV HL321_1.out) (Kd.R_base ho0) hb); have n5_ := Aside0.mk (Kd.R_elder' (mR HO325.out) (Kd.R_base ho0) hb); have n6_ := Aside0.mk (Kd.V_elder' (mV HO330.out) (Kd.R_base ho0) hb); have n7_ := Aside0.mk (Kd.R_lower (Kd.R_new' (Kd.R_new' (Kd.R_newM (M := fun k_ => (w.heap.size ≤ k_)) ho0 (below_size mZ) (fun k_ h_ => h_)) (Kd.R_lt (mR HO_303001.out))) (Kd.R_lt (mR HO325.out))) (below_size mZ)); have n8_ := Aside0.mk (blk_below (mK BK288.out) hb); have n9_ := Aside0.mk (blk_below (mK BK297.out) hb); have n10_ := Aside0.mk (blk_below (mK BK302.out) hb); have n11_ := Aside0.mk (Kd.C_below (by repeat (first | (with_reducible exact HR321_1.out) | (with_reducible refine Kd.C_alloc ?_ _) | (with_reducible refine Kd.C_drewN ?_ _) | (with_reducible refine Kd.C_drew ?_) | exact HR321_1.out)) hb); have n12_ := Aside0.mk (blk_below (mK BK322.out) hb); have n13_ := Aside0.mk (below_step mZ hb); clear HO_3; clear HO_57; clear HO_289001; clear HO_303001; clear HL321_1; clear HO325; clear HO330; clear BK288; clear BK297; clear BK302; clear HR321_1; clear BK322; clear HB; have HO_3 := n0_; have HO_57 := n1_; have HO_289001 := n2_; have HO_303001 := n3_; have HL321_1 := n4_; have HO325 := n5_; have HO330 := n6_; have HO333 := n7_; have BK288 := n8_; have BK297 := n9_; have BK302 := n10_; have HR321_1 := n11_; have BK322 := n12_; have HB := n13_; clear n0_ n1_ n2_ n3_ n4_ n5_ n6_ n7_ n8_ n9_ n10_ n11_ n12_ n13_; (try clear hb); (try clear hb2); (try clear hk); (try clear hi); (try clear ho0)))
                  have n0_ := Aside0.mk (Kd.V_drew HO_3.out)
                  have n1_ := Aside0.mk (Kd.N_drew HO_57.out)
                  have n2_ := Aside0.mk (Kd.V_drew HO_289001.out)
                  have n3_ := Aside0.mk (Kd.R_drew HO_303001.out)
                  have n4_ := Aside0.mk (Kd.V_drew HL321_1.out)
                  have n5_ := Aside0.mk (Kd.R_drew HO325.out)
                  have n6_ := Aside0.mk (Kd.V_drew HO330.out)
                  have n7_ := Aside0.mk (Kd.R_drew HO333.out)
                  have n8_ := Aside0.mk (blk_drew BK288.out)
                  have n9_ := Aside0.mk (blk_drew BK297.out)
                  have n10_ := Aside0.mk (blk_drew BK302.out)
                  have n11_ := Aside0.mk (blk_drew BK322.out)
                  have n12_ := Aside0.mk (Kd.C_drew HR321_1.out)
                  have n13_ := Aside0.mk (below_drew1 HB.out)
                  clear HO_3
                  clear HO_57
                  clear HO_289001
                  clear HO_303001
                  clear HL321_1
                  clear HO325
                  clear HO330
                  clear HO333
                  clear BK288
                  clear BK297
                  clear BK302
                  clear BK322
                  clear HR321_1
                  clear HB
                  have HO_3 := n0_
                  have HO_57 := n1_
                  have HO_289001 := n2_
                  have HO_303001 := n3_
                  have HL321_1 := n4_
                  have HO325 := n5_
                  have HO330 := n6_
                  have HO333 := n7_
                  have BK288 := n8_
                  have BK297 := n9_
                  have BK302 := n10_
                  have BK322 := n11_
                  have HR321_1 := n12_
                  have HB := n13_
                  clear n0_ n1_ n2_ n3_ n4_ n5_ n6_ n7_ n8_ n9_ n10_ n11_ n12_ n13_
                  refine start_ (n := 28) (S := fun w' => w'.cell? ⟨gb322, 0, none⟩ = some (.int .i64 ((rd_T26 y303 x59_3).f0)) ∧ w'.cell? ⟨gb322, 1, none⟩ = some (.slice A321_1 ((rd_T26 y303 x59_3).f1).length c321_1) ∧ World.ownsRow w' w.heap.size 5 1 (v324) t323.length (nums .u8 t323) ∧ World.ownsRow w' w.heap.size 5 1 (v332) t331.length (nums .u8 t331)) (ds := []) #[false, false, false, false, false, false, false, false, false, false, false, false, false, false, false, false, false, false, false, false, false, false, false, false, false, false, false, false] (by kernel_rfl) rfl rfl ⟨(blk_cell BK322.out 0).trans rfl, (blk_cell BK322.out 1).trans rfl, (Kd.own_of_R HO325.out), (Kd.own_of_R HO333.out)⟩ (fun hHeld => ?_); refine with_tabW columbariumlaw9_BloomTells.tab13 columbariumlaw9_BloomTells.bits13 (fun HT_ HW_ => ?_)
                  generalize w80.drew = w81 at HO_3 HO_57 HO_289001 HO_303001 HL321_1 HO325 HO330 HO333 BK288 BK297 BK302 BK322 HR321_1 HB hHeld ⊢
                  refine pure_ (i := 1) (N := some 75) (v := ?_) (a' := ?_) #[false, true, false, false, false, false, false, false, false, false, false, false, false, false, false, false, false, false, false, false, false, false, false, false, false, false, false, false] rfl rfl (any_of HT_.out (by kernel_rfl)) (fun _ _ _ h => h) (Or.inl ⟨by rfl, ?_⟩) ?_ ?_
                  rotate_left
                  ·intro w'
                   go_simp
                   with_reducible rfl
                  rotate_left
                  ·simp only [Act.put, List.setIfInBounds_toArray, List.set_cons_zero, List.set_cons_succ, i64_w, i32_w]
                   rfl
                  refine pure_ (i := 5) (N := some 79) (v := ?_) (a' := ?_) #[false, true, false, false, false, true, false, false, false, false, false, false, false, false, false, false, false, false, false, false, false, false, false, false, false, false, false, false] rfl rfl (any_of HT_.out (by kernel_rfl)) (fun _ _ _ h => h) (Or.inl ⟨by rfl, ?_⟩) ?_ ?_
                  rotate_left
                  ·intro w'
                   go_simp
                   with_reducible rfl
                  rotate_left
                  ·simp only [Act.put, List.setIfInBounds_toArray, List.set_cons_zero, List.set_cons_succ, i64_w, i32_w]
                   rfl
                  refine take_ (i := 0) (N := some 74) (v := ?_) (a' := ?_) #[true, true, false, false, false, true, false, false, false, false, false, false, false, false, false, false, false, false, false, false, false, false, false, false, false, false, false, false] rfl rfl (take_ofW HT_.out HW_.out (by kernel_rfl)) (fun _ _ _ h => h) (Or.inl ⟨by rfl, ?_⟩) hHeld ?_ ?_
                  rotate_left
                  ·rintro w' ⟨s0, s1, s2, s3⟩
                   go_simp
                   with_reducible rfl
                  rotate_left
                  ·simp only [Act.put, List.setIfInBounds_toArray, List.set_cons_zero, List.set_cons_succ, i64_w, i32_w]
                   rfl
                  refine take_ (i := 3) (N := some 77) (v := ?_) (a' := ?_) #[true, true, false, true, false, true, false, false, false, false, false, false, false, false, false, false, false, false, false, false, false, false, false, false, false, false, false, false] rfl rfl (take_ofW HT_.out HW_.out (by kernel_rfl)) (fun _ _ _ h => h) (Or.inl ⟨by rfl, ?_⟩) hHeld ?_ ?_
                  rotate_left
                  ·rintro w' ⟨s0, s1, s2, s3⟩
                   go_simp
                   with_reducible rfl
                  rotate_left
                  ·simp only [Act.put, List.setIfInBounds_toArray, List.set_cons_zero, List.set_cons_succ, i64_w, i32_w]
                   rfl
                  refine one_ (i := 2) (N := some 76) #[true, true, true, true, false, true, false, false, false, false, false, false, false, false, false, false, false, false, false, false, false, false, false, false, false, false, false, false] rfl rfl (one_of HT_.out (by kernel_rfl)) (by decide) (fun K hK => ?_)
                  refine goes_ Try.func11 (by kernel_rfl) rfl #[.agg #[.int .i64 ((rd_T26 y303 x59_3).f0), .slice A321_1 ((rd_T26 y303 x59_3).f1).length c321_1], .string a1] (by rfl) rfl rfl (by (try simp only [List.map_toArray, List.map_cons, List.map_nil]); first | done | rfl | (simp only [List.length_drop, List.length_take]; rfl)) ?_
                  with_reducible refine (bloom_May.calls k3 ((rd_T26 y303 x59_3).f0) _ _ ((rd_T26 y303 x59_3).f1) a1 t335 _ ?side1 ?side2 A59.out).mono ?_
                  (case side1 => repeat (first | exact (by repeat (first | (with_reducible exact HR321_1.out) | (with_reducible refine Kd.C_alloc ?_ _) | (with_reducible refine Kd.C_drewN ?_ _) | (with_reducible refine Kd.C_drew ?_) | exact HR321_1.out)) | (with_reducible refine Kd.C_alloc ?_ _) | (with_reducible refine Kd.C_drewN ?_ _) | (with_reducible refine Kd.C_drew ?_)))
                  (case side2 => first | exact HC321_1.out | exact Kd.V_mono HC321_1.out (fun k_ hk_ => by grind))
                  rintro e w82 ⟨rfl, hb⟩
                  have HS2_ := pw_own_below (hHeld.2.2.1) hb
                  have HS3_ := pw_own_below (hHeld.2.2.2) hb
                  refine ⟨_, rfl, ?_⟩
                  have n0_ := Aside0.mk (Kd.V_below (mV HO_3.out) hb)
                  have n1_ := Aside0.mk (Kd.N_below (mN HO_57.out) hb)
                  have n2_ := Aside0.mk (Kd.V_below (mV HO_289001.out) hb)
                  have n3_ := Aside0.mk (Kd.R_below (mR HO_303001.out) hb)
                  have n4_ := Aside0.mk (Kd.V_below (mV HL321_1.out) hb)
                  have n5_ := Aside0.mk (Kd.R_below (mR HO325.out) hb)
                  have n6_ := Aside0.mk (Kd.V_below (mV HO330.out) hb)
                  have n7_ := Aside0.mk (Kd.R_below (mR HO333.out) hb)
                  have n8_ := Aside0.mk (blk_below (mK BK288.out) hb)
                  have n9_ := Aside0.mk (blk_below (mK BK297.out) hb)
                  have n10_ := Aside0.mk (blk_below (mK BK302.out) hb)
                  have n11_ := Aside0.mk (Kd.C_below (by repeat (first | (with_reducible exact HR321_1.out) | (with_reducible refine Kd.C_alloc ?_ _) | (with_reducible refine Kd.C_drewN ?_ _) | (with_reducible refine Kd.C_drew ?_) | exact HR321_1.out)) hb)
                  have n12_ := Aside0.mk (blk_below (mK BK322.out) hb)
                  have n13_ := Aside0.mk (below_step mZ hb)
                  clear HO_3
                  clear HO_57
                  clear HO_289001
                  clear HO_303001
                  clear HL321_1
                  clear HO325
                  clear HO330
                  clear HO333
                  clear BK288
                  clear BK297
                  clear BK302
                  clear HR321_1
                  clear BK322
                  clear HB
                  have HO_3 := n0_
                  have HO_57 := n1_
                  have HO_289001 := n2_
                  have HO_303001 := n3_
                  have HL321_1 := n4_
                  have HO325 := n5_
                  have HO330 := n6_
                  have HO333 := n7_
                  have BK288 := n8_
                  have BK297 := n9_
                  have BK302 := n10_
                  have HR321_1 := n11_
                  have BK322 := n12_
                  have HB := n13_
                  clear n0_ n1_ n2_ n3_ n4_ n5_ n6_ n7_ n8_ n9_ n10_ n11_ n12_ n13_
                  (try clear hb)
                  (try clear hb2)
                  (try clear hk)
                  (try clear hi)
                  refine hK.out _ _ ⟨(blk_cell BK322.out 0).trans rfl, (blk_cell BK322.out 1).trans rfl, HS2_, HS3_⟩ (fun hHeld => ?_)
                  clear hK K
                  refine norm_ (a' := ?_) ?_ ?_
                  rotate_left
                  ·show Act.put _ (some 76) _ = _
                   simp only [Act.put, List.setIfInBounds_toArray, List.set_cons_zero, List.set_cons_succ, i64_w, i32_w]
                   rfl
                  refine one_ (i := 4) (N := some 78) #[true, true, true, true, true, true, false, false, false, false, false, false, false, false, false, false, false, false, false, false, false, false, false, false, false, false, false, false] rfl rfl (one_of HT_.out (by kernel_rfl)) (by decide) (fun K hK => ?_)
                  refine goes_ Try.func18 (by kernel_rfl) rfl #[.agg #[.int .i64 ((rd_T26 y303 x59_3).f0), .slice A321_1 ((rd_T26 y303 x59_3).f1).length c321_1]] (by rfl) rfl rfl (by (try simp only [List.map_toArray, List.map_cons, List.map_nil]); first | done | rfl | (simp only [List.length_drop, List.length_take]; rfl)) ?_
                  with_reducible refine (columbariumlaw9_in.calls ((rd_T26 y303 x59_3).f0) (fun k_ => (((((((P0_ k_ ∨ P2_1_ k_ ∨ P3_ k_) ∨ w.heap.size ≤ k_) ∧ (some k_ ≠ (.slice Ao30 t299.length co30 : Value).ownBlock ∧ (k_ ≠ gb288 ∧ (k_ ≠ gb297 ∧ k_ ≠ gb302)))) ∧ some k_ ≠ (.slice (some ad321) y303.length co52 : Value).ownBlock) ∧ k_ ≠ gb322) ∧ some k_ ≠ (v324 : Value).ownBlock) ∧ some k_ ≠ (v332 : Value).ownBlock)) _ _ ((rd_T26 y303 x59_3).f1) t336 t337 _ ?side1 A60.out).mono ?_
                  (case side1 => first | exact HL321_1.out | exact Kd.V_mono HL321_1.out (fun k_ hk_ => by grind))
                  rintro e w83 ⟨v338, rfl, ho0, hb⟩
                  have HS2_ := pw_own_below (hHeld.2.2.1) hb
                  have HS3_ := pw_own_below (hHeld.2.2.2) hb
                  refine ⟨_, rfl, ?_⟩
                  have n0_ := Aside0.mk (Kd.V_below (mV HO_3.out) hb)
                  have n1_ := Aside0.mk (Kd.N_below (mN HO_57.out) hb)
                  have n2_ := Aside0.mk (Kd.V_below (mV HO_289001.out) hb)
                  have n3_ := Aside0.mk (Kd.R_below (mR HO_303001.out) hb)
                  have n4_ := Aside0.mk (Kd.V_below (mV HL321_1.out) hb)
                  have n5_ := Aside0.mk (Kd.R_below (mR HO325.out) hb)
                  have n6_ := Aside0.mk (Kd.V_below (mV HO330.out) hb)
                  have n7_ := Aside0.mk (Kd.R_below (mR HO333.out) hb)
                  have n8_ := Aside0.mk (Kd.V_lower (Kd.V_mono (ok' := fun k_ => ((P0_ k_ ∨ P2_1_ k_ ∨ P3_ k_) ∨ w.heap.size ≤ k_) ∧ some k_ ≠ (.slice (some ad321) y303.length co52 : Value).ownBlock ∧ some k_ ≠ (.slice Ao30 t299.length co30 : Value).ownBlock ∧ some k_ ≠ (v324 : Value).ownBlock ∧ some k_ ≠ (v332 : Value).ownBlock ∧ k_ ≠ gb288 ∧ k_ ≠ gb297 ∧ k_ ≠ gb302 ∧ k_ ≠ gb322) ho0 (fun k_ hk_ => ⟨Or.elim hk_ (fun hs_ => hs_.1.1.1.1.1) (fun hn_ => (.inr (Nat.le_trans (below_size mZ) hn_))), Or.elim hk_ (fun hs_ => hs_.1.1.1.2) (fun hn_ => (Kd.fresh' (Kd.N_lt (mN HO_57.out)) k_ hn_)), Or.elim hk_ (fun hs_ => hs_.1.1.1.1.2.1) (fun hn_ => (Kd.fresh' (Kd.R_lt (mR HO_303001.out)) k_ hn_)), Or.elim hk_ (fun hs_ => hs_.1.2) (fun hn_ => (Kd.fresh' (Kd.R_lt (mR HO325.out)) k_ hn_)), Or.elim hk_ (fun hs_ => hs_.2) (fun hn_ => (Kd.fresh' (Kd.R_lt (mR HO333.out)) k_ hn_)), Or.elim hk_ (fun hs_ => hs_.1.1.1.1.2.2.1) (fun hn_ => (Kd.freshB (mK BK288.out) k_ hn_)), Or.elim hk_ (fun hs_ => hs_.1.1.1.1.2.2.2.1) (fun hn_ => (Kd.freshB (mK BK297.out) k_ hn_)), Or.elim hk_ (fun hs_ => hs_.1.1.1.1.2.2.2.2) (fun hn_ => (Kd.freshB (mK BK302.out) k_ hn_)), Or.elim hk_ (fun hs_ => hs_.1.1.2) (fun hn_ => (Kd.freshB (mK BK322.out) k_ hn_))⟩)) (below_size mZ))
                  have n9_ := Aside0.mk (blk_below (mK BK288.out) hb)
                  have n10_ := Aside0.mk (blk_below (mK BK297.out) hb)
                  have n11_ := Aside0.mk (blk_below (mK BK302.out) hb)
                  have n12_ := Aside0.mk (Kd.C_below (by repeat (first | (with_reducible exact HR321_1.out) | (with_reducible refine Kd.C_alloc ?_ _) | (with_reducible refine Kd.C_drewN ?_ _) | (with_reducible refine Kd.C_drew ?_) | exact HR321_1.out)) hb)
                  have n13_ := Aside0.mk (blk_below (mK BK322.out) hb)
                  have n14_ := Aside0.mk (below_step mZ hb)
                  clear HO_3
                  clear HO_57
                  clear HO_289001
                  clear HO_303001
                  clear HL321_1
                  clear HO325
                  clear HO330
                  clear HO333
                  clear BK288
                  clear BK297
                  clear BK302
                  clear HR321_1
                  clear BK322
                  clear HB
                  have HO_3 := n0_
                  have HO_57 := n1_
                  have HO_289001 := n2_
                  have HO_303001 := n3_
                  have HL321_1 := n4_
                  have HO325 := n5_
                  have HO330 := n6_
                  have HO333 := n7_
                  have HO339 := n8_
                  have BK288 := n9_
                  have BK297 := n10_
                  have BK302 := n11_
                  have HR321_1 := n12_
                  have BK322 := n13_
                  have HB := n14_
                  clear n0_ n1_ n2_ n3_ n4_ n5_ n6_ n7_ n8_ n9_ n10_ n11_ n12_ n13_ n14_
                  (try clear hb)
                  (try clear hb2)
                  (try clear hk)
                  (try clear hi)
                  (try clear ho0)
                  obtain ⟨Ao84, co84, eo84⟩ := Kd.V_slice HO339.out
                  (first | subst eo84 | (injection eo84 with f1_ f2_ f3_; have f4_ := f1_.symm; have f5_ := f3_.symm; clear f1_ f2_ f3_; subst f4_; subst f5_))
                  refine hK.out _ _ ⟨(blk_cell BK322.out 0).trans rfl, (blk_cell BK322.out 1).trans rfl, HS2_, HS3_⟩ (fun hHeld => ?_)
                  clear hK K
                  refine norm_ (a' := ?_) ?_ ?_
                  rotate_left
                  ·show Act.put _ (some 78) _ = _
                   simp only [Act.put, List.setIfInBounds_toArray, List.set_cons_zero, List.set_cons_succ, i64_w, i32_w]
                   rfl
                  refine one_ (i := 6) (N := some 80) #[true, true, true, true, true, true, true, false, false, false, false, false, false, false, false, false, false, false, false, false, false, false, false, false, false, false, false, false] rfl rfl (one_of HT_.out (by kernel_rfl)) (by decide) (fun K hK => ?_)
                  refine goes_ Try.func20 (by kernel_rfl) rfl #[.agg #[.int .i64 t336, .slice Ao84 t337.length co84], .string a1] (by rfl) rfl rfl (by (try simp only [List.map_toArray, List.map_cons, List.map_nil]); first | done | rfl | (simp only [List.length_drop, List.length_take]; rfl)) ?_
                  with_reducible refine (columbariumref9_May.calls k3 t336 _ _ t337 a1 t340 _ ?side1 ?side2 A61.out).mono ?_
                  (case side1 => repeat (first | exact (Kd.V_reads' HO339.out).2.2 | (with_reducible refine Kd.C_alloc ?_ _) | (with_reducible refine Kd.C_drewN ?_ _) | (with_reducible refine Kd.C_drew ?_)))
                  (case side2 => exact (Kd.V_reads' HO339.out).2.1)
                  rintro e w85 ⟨rfl, hb⟩
                  have HS2_ := pw_own_below (hHeld.2.2.1) hb
                  have HS3_ := pw_own_below (hHeld.2.2.2) hb
                  refine ⟨_, rfl, ?_⟩
                  have n0_ := Aside0.mk (Kd.V_below (mV HO_3.out) hb)
                  have n1_ := Aside0.mk (Kd.N_below (mN HO_57.out) hb)
                  have n2_ := Aside0.mk (Kd.V_below (mV HO_289001.out) hb)
                  have n3_ := Aside0.mk (Kd.R_below (mR HO_303001.out) hb)
                  have n4_ := Aside0.mk (Kd.V_below (mV HL321_1.out) hb)
                  have n5_ := Aside0.mk (Kd.R_below (mR HO325.out) hb)
                  have n6_ := Aside0.mk (Kd.V_below (mV HO330.out) hb)
                  have n7_ := Aside0.mk (Kd.R_below (mR HO333.out) hb)
                  have n8_ := Aside0.mk (Kd.V_below (mV HO339.out) hb)
                  have n9_ := Aside0.mk (blk_below (mK BK288.out) hb)
                  have n10_ := Aside0.mk (blk_below (mK BK297.out) hb)
                  have n11_ := Aside0.mk (blk_below (mK BK302.out) hb)
                  have n12_ := Aside0.mk (Kd.C_below (by repeat (first | (with_reducible exact HR321_1.out) | (with_reducible refine Kd.C_alloc ?_ _) | (with_reducible refine Kd.C_drewN ?_ _) | (with_reducible refine Kd.C_drew ?_) | exact HR321_1.out)) hb)
                  have n13_ := Aside0.mk (blk_below (mK BK322.out) hb)
                  have n14_ := Aside0.mk (below_step mZ hb)
                  clear HO_3
                  clear HO_57
                  clear HO_289001
                  clear HO_303001
                  clear HL321_1
                  clear HO325
                  clear HO330
                  clear HO333
                  clear HO339
                  clear BK288
                  clear BK297
                  clear BK302
                  clear HR321_1
                  clear BK322
                  clear HB
                  have HO_3 := n0_
                  have HO_57 := n1_
                  have HO_289001 := n2_
                  have HO_303001 := n3_
                  have HL321_1 := n4_
                  have HO325 := n5_
                  have HO330 := n6_
                  have HO333 := n7_
                  have HO339 := n8_
                  have BK288 := n9_
                  have BK297 := n10_
                  have BK302 := n11_
                  have HR321_1 := n12_
                  have BK322 := n13_
                  have HB := n14_
                  clear n0_ n1_ n2_ n3_ n4_ n5_ n6_ n7_ n8_ n9_ n10_ n11_ n12_ n13_ n14_
                  (try clear hb)
                  (try clear hb2)
                  (try clear hk)
                  (try clear hi)
                  refine hK.out _ _ ⟨(blk_cell BK322.out 0).trans rfl, (blk_cell BK322.out 1).trans rfl, HS2_, HS3_⟩ (fun hHeld => ?_)
                  clear hK K
                  refine norm_ (a' := ?_) ?_ ?_
                  rotate_left
                  ·show Act.put _ (some 80) _ = _
                   simp only [Act.put, List.setIfInBounds_toArray, List.set_cons_zero, List.set_cons_succ, i64_w, i32_w]
                   rfl
                  refine pure_ (i := 7) (N := some 81) (v := ?_) (a' := ?_) #[true, true, true, true, true, true, true, true, false, false, false, false, false, false, false, false, false, false, false, false, false, false, false, false, false, false, false, false] rfl rfl (any_of HT_.out (by kernel_rfl)) (fun _ _ _ h => h) (Or.inl ⟨by rfl, ?_⟩) ?_ ?_
                  rotate_left
                  ·intro w'
                   go_simp
                   with_reducible rfl
                  rotate_left
                  ·simp only [Act.put, List.setIfInBounds_toArray, List.set_cons_zero, List.set_cons_succ, i64_w, i32_w]
                   rfl
                  refine pure_ (i := 8) (N := some 82) (v := ?_) (a' := ?_) #[true, true, true, true, true, true, true, true, true, false, false, false, false, false, false, false, false, false, false, false, false, false, false, false, false, false, false, false] rfl rfl (any_of HT_.out (by kernel_rfl)) (fun _ _ _ h => h) (Or.inl ⟨by rfl, ?_⟩) ?_ ?_
                  rotate_left
                  ·intro w'
                   go_simp
                   with_reducible rfl
                  rotate_left
                  ·simp only [Act.put, List.setIfInBounds_toArray, List.set_cons_zero, List.set_cons_succ, i64_w, i32_w]
                   rfl
                  refine take_ (i := 9) (N := some 83) (v := ?_) (a' := ?_) #[true, true, true, true, true, true, true, true, true, true, false, false, false, false, false, false, false, false, false, false, false, false, false, false, false, false, false, false] rfl rfl (take_ofW HT_.out HW_.out (by kernel_rfl)) (fun _ _ _ h => h) (Or.inl ⟨by rfl, ?_⟩) hHeld ?_ ?_
                  rotate_left
                  ·rintro w' ⟨s0, s1, s2, s3⟩
                   go_simp
                   with_reducible rfl
                  rotate_left
                  ·simp only [Act.put, List.setIfInBounds_toArray, List.set_cons_zero, List.set_cons_succ, i64_w, i32_w]
                   rfl
                  refine take_ (i := 11) (N := some 85) (v := ?_) (a' := ?_) #[true, true, true, true, true, true, true, true, true, true, false, true, false, false, false, false, false, false, false, false, false, false, false, false, false, false, false, false] rfl rfl (take_ofW HT_.out HW_.out (by kernel_rfl)) (fun _ _ _ h => h) (Or.inl ⟨by rfl, ?_⟩) hHeld ?_ ?_
                  rotate_left
                  ·rintro w' ⟨s0, s1, s2, s3⟩
                   go_simp
                   with_reducible rfl
                  rotate_left
                  ·simp only [Act.put, List.setIfInBounds_toArray, List.set_cons_zero, List.set_cons_succ, i64_w, i32_w]
                   rfl
                  refine one_ (i := 10) (N := some 84) #[true, true, true, true, true, true, true, true, true, true, true, true, false, false, false, false, false, false, false, false, false, false, false, false, false, false, false, false] rfl rfl (one_of HT_.out (by kernel_rfl)) (by decide) (fun K hK => ?_)
                  refine goes_ Try.func13 (by kernel_rfl) rfl #[.agg #[.int .i64 ((rd_T26 y303 x59_3).f0), .slice A321_1 ((rd_T26 y303 x59_3).f1).length c321_1]] (by rfl) rfl rfl (by (try simp only [List.map_toArray, List.map_cons, List.map_nil]); first | done | rfl | (simp only [List.length_drop, List.length_take]; rfl)) ?_
                  with_reducible refine (bloom_Right.calls ((rd_T26 y303 x59_3).f0) _ _ ((rd_T26 y303 x59_3).f1) t341 _ ?side1 ?side2 A63.out).mono ?_
                  (case side1 => repeat (first | exact (by repeat (first | (with_reducible exact HR321_1.out) | (with_reducible refine Kd.C_alloc ?_ _) | (with_reducible refine Kd.C_drewN ?_ _) | (with_reducible refine Kd.C_drew ?_) | exact HR321_1.out)) | (with_reducible refine Kd.C_alloc ?_ _) | (with_reducible refine Kd.C_drewN ?_ _) | (with_reducible refine Kd.C_drew ?_)))
                  (case side2 => first | exact HC321_1.out | exact Kd.V_mono HC321_1.out (fun k_ hk_ => by grind))
                  rintro e w86 ⟨rfl, hb⟩
                  have HS2_ := pw_own_below (hHeld.2.2.1) hb
                  have HS3_ := pw_own_below (hHeld.2.2.2) hb
                  refine ⟨_, rfl, ?_⟩
                  have n0_ := Aside0.mk (Kd.V_below (mV HO_3.out) hb)
                  have n1_ := Aside0.mk (Kd.N_below (mN HO_57.out) hb)
                  have n2_ := Aside0.mk (Kd.V_below (mV HO_289001.out) hb)
                  have n3_ := Aside0.mk (Kd.R_below (mR HO_303001.out) hb)
                  have n4_ := Aside0.mk (Kd.V_below (mV HL321_1.out) hb)
                  have n5_ := Aside0.mk (Kd.R_below (mR HO325.out) hb)
                  have n6_ := Aside0.mk (Kd.V_below (mV HO330.out) hb)
                  have n7_ := Aside0.mk (Kd.R_below (mR HO333.out) hb)
                  have n8_ := Aside0.mk (Kd.V_below (mV HO339.out) hb)
                  have n9_ := Aside0.mk (blk_below (mK BK288.out) hb)
                  have n10_ := Aside0.mk (blk_below (mK BK297.out) hb)
                  have n11_ := Aside0.mk (blk_below (mK BK302.out) hb)
                  have n12_ := Aside0.mk (Kd.C_below (by repeat (first | (with_reducible exact HR321_1.out) | (with_reducible refine Kd.C_alloc ?_ _) | (with_reducible refine Kd.C_drewN ?_ _) | (with_reducible refine Kd.C_drew ?_) | exact HR321_1.out)) hb)
                  have n13_ := Aside0.mk (blk_below (mK BK322.out) hb)
                  have n14_ := Aside0.mk (below_step mZ hb)
                  clear HO_3
                  clear HO_57
                  clear HO_289001
                  clear HO_303001
                  clear HL321_1
                  clear HO325
                  clear HO330
                  clear HO333
                  clear HO339
                  clear BK288
                  clear BK297
                  clear BK302
                  clear HR321_1
                  clear BK322
                  clear HB
                  have HO_3 := n0_
                  have HO_57 := n1_
                  have HO_289001 := n2_
                  have HO_303001 := n3_
                  have HL321_1 := n4_
                  have HO325 := n5_
                  have HO330 := n6_
                  have HO333 := n7_
                  have HO339 := n8_
                  have BK288 := n9_
                  have BK297 := n10_
                  have BK302 := n11_
                  have HR321_1 := n12_
                  have BK322 := n13_
                  have HB := n14_
                  clear n0_ n1_ n2_ n3_ n4_ n5_ n6_ n7_ n8_ n9_ n10_ n11_ n12_ n13_ n14_
                  (try clear hb)
                  (try clear hb2)
                  (try clear hk)
                  (try clear hi)
                  refine hK.out _ _ ⟨(blk_cell BK322.out 0).trans rfl, (blk_cell BK322.out 1).trans rfl, HS2_, HS3_⟩ (fun hHeld => ?_)
                  clear hK K
                  refine norm_ (a' := ?_) ?_ ?_
                  rotate_left
                  ·show Act.put _ (some 84) _ = _
                   simp only [Act.put, List.setIfInBounds_toArray, List.set_cons_zero, List.set_cons_succ, i64_w, i32_w]
                   rfl
                  refine one_ (i := 12) (N := some 86) #[true, true, true, true, true, true, true, true, true, true, true, true, true, false, false, false, false, false, false, false, false, false, false, false, false, false, false, false] rfl rfl (one_of HT_.out (by kernel_rfl)) (by decide) (fun K hK => ?_)
                  refine goes_ Try.func18 (by kernel_rfl) rfl #[.agg #[.int .i64 ((rd_T26 y303 x59_3).f0), .slice A321_1 ((rd_T26 y303 x59_3).f1).length c321_1]] (by rfl) rfl rfl (by (try simp only [List.map_toArray, List.map_cons, List.map_nil]); first | done | rfl | (simp only [List.length_drop, List.length_take]; rfl)) ?_
                  with_reducible refine (columbariumlaw9_in.calls ((rd_T26 y303 x59_3).f0) (fun k_ => (((((((P0_ k_ ∨ P2_1_ k_ ∨ P3_ k_) ∨ w.heap.size ≤ k_) ∧ (some k_ ≠ (.slice Ao30 t299.length co30 : Value).ownBlock ∧ (k_ ≠ gb288 ∧ (k_ ≠ gb297 ∧ k_ ≠ gb302)))) ∧ some k_ ≠ (.slice (some ad321) y303.length co52 : Value).ownBlock) ∧ k_ ≠ gb322) ∧ some k_ ≠ (v324 : Value).ownBlock) ∧ some k_ ≠ (v332 : Value).ownBlock)) _ _ ((rd_T26 y303 x59_3).f1) t342 t343 _ ?side1 A64.out).mono ?_
                  (case side1 => first | exact HL321_1.out | exact Kd.V_mono HL321_1.out (fun k_ hk_ => by grind))
                  rintro e w87 ⟨v344, rfl, ho0, hb⟩
                  have HS2_ := pw_own_below (hHeld.2.2.1) hb
                  have HS3_ := pw_own_below (hHeld.2.2.2) hb
                  refine ⟨_, rfl, ?_⟩
                  have n0_ := Aside0.mk (Kd.V_below (mV HO_3.out) hb)
                  have n1_ := Aside0.mk (Kd.N_below (mN HO_57.out) hb)
                  have n2_ := Aside0.mk (Kd.V_below (mV HO_289001.out) hb)
                  have n3_ := Aside0.mk (Kd.R_below (mR HO_303001.out) hb)
                  have n4_ := Aside0.mk (Kd.V_below (mV HL321_1.out) hb)
                  have n5_ := Aside0.mk (Kd.R_below (mR HO325.out) hb)
                  have n6_ := Aside0.mk (Kd.V_below (mV HO330.out) hb)
                  have n7_ := Aside0.mk (Kd.R_below (mR HO333.out) hb)
                  have n8_ := Aside0.mk (Kd.V_below (mV HO339.out) hb)
                  have n9_ := Aside0.mk (Kd.V_lower (Kd.V_mono (ok' := fun k_ => ((P0_ k_ ∨ P2_1_ k_ ∨ P3_ k_) ∨ w.heap.size ≤ k_) ∧ some k_ ≠ (.slice (some ad321) y303.length co52 : Value).ownBlock ∧ some k_ ≠ (.slice Ao30 t299.length co30 : Value).ownBlock ∧ some k_ ≠ (v324 : Value).ownBlock ∧ some k_ ≠ (v332 : Value).ownBlock ∧ k_ ≠ gb288 ∧ k_ ≠ gb297 ∧ k_ ≠ gb302 ∧ k_ ≠ gb322) ho0 (fun k_ hk_ => ⟨Or.elim hk_ (fun hs_ => hs_.1.1.1.1.1) (fun hn_ => (.inr (Nat.le_trans (below_size mZ) hn_))), Or.elim hk_ (fun hs_ => hs_.1.1.1.2) (fun hn_ => (Kd.fresh' (Kd.N_lt (mN HO_57.out)) k_ hn_)), Or.elim hk_ (fun hs_ => hs_.1.1.1.1.2.1) (fun hn_ => (Kd.fresh' (Kd.R_lt (mR HO_303001.out)) k_ hn_)), Or.elim hk_ (fun hs_ => hs_.1.2) (fun hn_ => (Kd.fresh' (Kd.R_lt (mR HO325.out)) k_ hn_)), Or.elim hk_ (fun hs_ => hs_.2) (fun hn_ => (Kd.fresh' (Kd.R_lt (mR HO333.out)) k_ hn_)), Or.elim hk_ (fun hs_ => hs_.1.1.1.1.2.2.1) (fun hn_ => (Kd.freshB (mK BK288.out) k_ hn_)), Or.elim hk_ (fun hs_ => hs_.1.1.1.1.2.2.2.1) (fun hn_ => (Kd.freshB (mK BK297.out) k_ hn_)), Or.elim hk_ (fun hs_ => hs_.1.1.1.1.2.2.2.2) (fun hn_ => (Kd.freshB (mK BK302.out) k_ hn_)), Or.elim hk_ (fun hs_ => hs_.1.1.2) (fun hn_ => (Kd.freshB (mK BK322.out) k_ hn_))⟩)) (below_size mZ))
                  have n10_ := Aside0.mk (blk_below (mK BK288.out) hb)
                  have n11_ := Aside0.mk (blk_below (mK BK297.out) hb)
                  have n12_ := Aside0.mk (blk_below (mK BK302.out) hb)
                  have n13_ := Aside0.mk (Kd.C_below (by repeat (first | (with_reducible exact HR321_1.out) | (with_reducible refine Kd.C_alloc ?_ _) | (with_reducible refine Kd.C_drewN ?_ _) | (with_reducible refine Kd.C_drew ?_) | exact HR321_1.out)) hb)
                  have n14_ := Aside0.mk (blk_below (mK BK322.out) hb)
                  have n15_ := Aside0.mk (below_step mZ hb)
                  clear HO_3
                  clear HO_57
                  clear HO_289001
                  clear HO_303001
                  clear HL321_1
                  clear HO325
                  clear HO330
                  clear HO333
                  clear HO339
                  clear BK288
                  clear BK297
                  clear BK302
                  clear HR321_1
                  clear BK322
                  clear HB
                  have HO_3 := n0_
                  have HO_57 := n1_
                  have HO_289001 := n2_
                  have HO_303001 := n3_
                  have HL321_1 := n4_
                  have HO325 := n5_
                  have HO330 := n6_
                  have HO333 := n7_
                  have HO339 := n8_
                  have HO345 := n9_
                  have BK288 := n10_
                  have BK297 := n11_
                  have BK302 := n12_
                  have HR321_1 := n13_
                  have BK322 := n14_
                  have HB := n15_
                  clear n0_ n1_ n2_ n3_ n4_ n5_ n6_ n7_ n8_ n9_ n10_ n11_ n12_ n13_ n14_ n15_
                  (try clear hb)
                  (try clear hb2)
                  (try clear hk)
                  (try clear hi)
                  (try clear ho0)
                  obtain ⟨Ao88, co88, eo88⟩ := Kd.V_slice HO345.out
                  (first | subst eo88 | (injection eo88 with f1_ f2_ f3_; have f4_ := f1_.symm; have f5_ := f3_.symm; clear f1_ f2_ f3_; subst f4_; subst f5_))
                  refine hK.out _ _ ⟨(blk_cell BK322.out 0).trans rfl, (blk_cell BK322.out 1).trans rfl, HS2_, HS3_⟩ (fun hHeld => ?_)
                  clear hK K
                  refine norm_ (a' := ?_) ?_ ?_
                  rotate_left
                  ·show Act.put _ (some 86) _ = _
                   simp only [Act.put, List.setIfInBounds_toArray, List.set_cons_zero, List.set_cons_succ, i64_w, i32_w]
                   rfl
                  refine one_ (i := 13) (N := some 87) #[true, true, true, true, true, true, true, true, true, true, true, true, true, true, false, false, false, false, false, false, false, false, false, false, false, false, false, false] rfl rfl (one_of HT_.out (by kernel_rfl)) (by decide) (fun K hK => ?_)
                  refine goes_ Try.func19 (by kernel_rfl) rfl #[.agg #[.int .i64 t342, .slice Ao88 t343.length co88]] (by rfl) rfl rfl (by (try simp only [List.map_toArray, List.map_cons, List.map_nil]); first | done | rfl | (simp only [List.length_drop, List.length_take]; rfl)) ?_
                  with_reducible refine (columbariumref9_Right.calls k3 t342 _ _ t343 t346 _ ?side1 ?side2 A65.out).mono ?_
                  (case side1 => repeat (first | exact (Kd.V_reads' HO345.out).2.2 | (with_reducible refine Kd.C_alloc ?_ _) | (with_reducible refine Kd.C_drewN ?_ _) | (with_reducible refine Kd.C_drew ?_)))
                  (case side2 => exact (Kd.V_reads' HO345.out).2.1)
                  rintro e w89 ⟨rfl, hb⟩
                  have HS2_ := pw_own_below (hHeld.2.2.1) hb
                  have HS3_ := pw_own_below (hHeld.2.2.2) hb
                  refine ⟨_, rfl, ?_⟩
                  have n0_ := Aside0.mk (Kd.V_below (mV HO_3.out) hb)
                  have n1_ := Aside0.mk (Kd.N_below (mN HO_57.out) hb)
                  have n2_ := Aside0.mk (Kd.V_below (mV HO_289001.out) hb)
                  have n3_ := Aside0.mk (Kd.R_below (mR HO_303001.out) hb)
                  have n4_ := Aside0.mk (Kd.V_below (mV HL321_1.out) hb)
                  have n5_ := Aside0.mk (Kd.R_below (mR HO325.out) hb)
                  have n6_ := Aside0.mk (Kd.V_below (mV HO330.out) hb)
                  have n7_ := Aside0.mk (Kd.R_below (mR HO333.out) hb)
                  have n8_ := Aside0.mk (Kd.V_below (mV HO339.out) hb)
                  have n9_ := Aside0.mk (Kd.V_below (mV HO345.out) hb)
                  have n10_ := Aside0.mk (blk_below (mK BK288.out) hb)
                  have n11_ := Aside0.mk (blk_below (mK BK297.out) hb)
                  have n12_ := Aside0.mk (blk_below (mK BK302.out) hb)
                  have n13_ := Aside0.mk (Kd.C_below (by repeat (first | (with_reducible exact HR321_1.out) | (with_reducible refine Kd.C_alloc ?_ _) | (with_reducible refine Kd.C_drewN ?_ _) | (with_reducible refine Kd.C_drew ?_) | exact HR321_1.out)) hb)
                  have n14_ := Aside0.mk (blk_below (mK BK322.out) hb)
                  have n15_ := Aside0.mk (below_step mZ hb)
                  clear HO_3
                  clear HO_57
                  clear HO_289001
                  clear HO_303001
                  clear HL321_1
                  clear HO325
                  clear HO330
                  clear HO333
                  clear HO339
                  clear HO345
                  clear BK288
                  clear BK297
                  clear BK302
                  clear HR321_1
                  clear BK322
                  clear HB
                  have HO_3 := n0_
                  have HO_57 := n1_
                  have HO_289001 := n2_
                  have HO_303001 := n3_
                  have HL321_1 := n4_
                  have HO325 := n5_
                  have HO330 := n6_
                  have HO333 := n7_
                  have HO339 := n8_
                  have HO345 := n9_
                  have BK288 := n10_
                  have BK297 := n11_
                  have BK302 := n12_
                  have HR321_1 := n13_
                  have BK322 := n14_
                  have HB := n15_
                  clear n0_ n1_ n2_ n3_ n4_ n5_ n6_ n7_ n8_ n9_ n10_ n11_ n12_ n13_ n14_ n15_
                  (try clear hb)
                  (try clear hb2)
                  (try clear hk)
                  (try clear hi)
                  refine hK.out _ _ ⟨(blk_cell BK322.out 0).trans rfl, (blk_cell BK322.out 1).trans rfl, HS2_, HS3_⟩ (fun hHeld => ?_)
                  clear hK K
                  refine norm_ (a' := ?_) ?_ ?_
                  rotate_left
                  ·show Act.put _ (some 87) _ = _
                   simp only [Act.put, List.setIfInBounds_toArray, List.set_cons_zero, List.set_cons_succ, i64_w, i32_w]
                   rfl
                  refine pure_ (i := 14) (N := some 88) (v := ?_) (a' := ?_) #[true, true, true, true, true, true, true, true, true, true, true, true, true, true, true, false, false, false, false, false, false, false, false, false, false, false, false, false] rfl rfl (any_of HT_.out (by kernel_rfl)) (fun _ _ _ h => h) (Or.inl ⟨by rfl, ?_⟩) ?_ ?_
                  rotate_left
                  ·intro w'
                   go_simp
                   with_reducible rfl
                  rotate_left
                  ·simp only [Act.put, List.setIfInBounds_toArray, List.set_cons_zero, List.set_cons_succ, i64_w, i32_w]
                   rfl
                  refine pure_ (i := 15) (N := some 89) (v := ?_) (a' := ?_) #[true, true, true, true, true, true, true, true, true, true, true, true, true, true, true, true, false, false, false, false, false, false, false, false, false, false, false, false] rfl rfl (any_of HT_.out (by kernel_rfl)) (fun _ _ _ h => h) (Or.inl ⟨by rfl, ?_⟩) ?_ ?_
                  rotate_left
                  ·intro w'
                   go_simp
                   with_reducible rfl
                  rotate_left
                  ·simp only [Act.put, List.setIfInBounds_toArray, List.set_cons_zero, List.set_cons_succ, i64_w, i32_w]
                   rfl
                  refine pure_ (i := 16) (N := some 90) (v := ?_) (a' := ?_) #[true, true, true, true, true, true, true, true, true, true, true, true, true, true, true, true, true, false, false, false, false, false, false, false, false, false, false, false] rfl rfl (any_of HT_.out (by kernel_rfl)) (fun _ _ _ h => h) (Or.inl ⟨by rfl, ?_⟩) ?_ ?_
                  rotate_left
                  ·intro w'
                   go_simp
                   with_reducible rfl
                  rotate_left
                  ·simp only [Act.put, List.setIfInBounds_toArray, List.set_cons_zero, List.set_cons_succ, i64_w, i32_w]
                   rfl
                  refine pure_ (i := 17) (N := some 91) (v := ?_) (a' := ?_) #[true, true, true, true, true, true, true, true, true, true, true, true, true, true, true, true, true, true, false, false, false, false, false, false, false, false, false, false] rfl rfl (any_of HT_.out (by kernel_rfl)) (fun _ _ _ h => h) (Or.inl ⟨by rfl, ?_⟩) ?_ ?_
                  rotate_left
                  ·intro w'
                   go_simp
                   with_reducible rfl
                  rotate_left
                  ·simp only [Act.put, List.setIfInBounds_toArray, List.set_cons_zero, List.set_cons_succ, i64_w, i32_w]
                   rfl
                  refine pure_ (i := 19) (N := some 93) (v := ?_) (a' := ?_) #[true, true, true, true, true, true, true, true, true, true, true, true, true, true, true, true, true, true, false, true, false, false, false, false, false, false, false, false] rfl rfl (any_of HT_.out (by kernel_rfl)) (fun _ _ _ h => h) (Or.inl ⟨by rfl, ?_⟩) ?_ ?_
                  rotate_left
                  ·intro w'
                   go_simp
                   with_reducible rfl
                  rotate_left
                  ·simp only [Act.put, List.setIfInBounds_toArray, List.set_cons_zero, List.set_cons_succ, i64_w, i32_w]
                   rfl
                  refine take_ (i := 18) (N := some 92) (v := ?_) (a' := ?_) #[true, true, true, true, true, true, true, true, true, true, true, true, true, true, true, true, true, true, true, true, false, false, false, false, false, false, false, false] rfl rfl (take_ofW HT_.out HW_.out (by kernel_rfl)) (fun _ _ _ h => h) (Or.inl ⟨by rfl, ?_⟩) hHeld ?_ ?_
                  rotate_left
                  ·rintro w' ⟨s0, s1, s2, s3⟩
                   (try have hz0_ := own_string (P := Try.prog) Try.underlying24 Try.underlying5 Try.underlying9 s0)
                   (try have hz0_ := fun c_ : Nat => Kd.C_string (P := Try.prog) (c := c_) Try.underlying24 Try.underlying5 Try.underlying9 s0)
                   (try have hz1_ := own_string (P := Try.prog) Try.underlying24 Try.underlying5 Try.underlying9 s1)
                   (try have hz1_ := fun c_ : Nat => Kd.C_string (P := Try.prog) (c := c_) Try.underlying24 Try.underlying5 Try.underlying9 s1)
                   (try have hz2_ := own_string (P := Try.prog) Try.underlying24 Try.underlying5 Try.underlying9 s2)
                   (try have hz2_ := fun c_ : Nat => Kd.C_string (P := Try.prog) (c := c_) Try.underlying24 Try.underlying5 Try.underlying9 s2)
                   (try have hz3_ := own_string (P := Try.prog) Try.underlying24 Try.underlying5 Try.underlying9 s3)
                   (try have hz3_ := fun c_ : Nat => Kd.C_string (P := Try.prog) (c := c_) Try.underlying24 Try.underlying5 Try.underlying9 s3)
                   go_simp
                   with_reducible rfl
                  rotate_left
                  ·simp only [Act.put, List.setIfInBounds_toArray, List.set_cons_zero, List.set_cons_succ, i64_w, i32_w]
                   rfl
                  refine take_ (i := 20) (N := some 94) (v := ?_) (a' := ?_) #[true, true, true, true, true, true, true, true, true, true, true, true, true, true, true, true, true, true, true, true, true, false, false, false, false, false, false, false] rfl rfl (take_ofW HT_.out HW_.out (by kernel_rfl)) (fun _ _ _ h => h) (Or.inl ⟨by rfl, ?_⟩) hHeld ?_ ?_
                  rotate_left
                  ·rintro w' ⟨s0, s1, s2, s3⟩
                   (try have hz0_ := own_string (P := Try.prog) Try.underlying24 Try.underlying5 Try.underlying9 s0)
                   (try have hz0_ := fun c_ : Nat => Kd.C_string (P := Try.prog) (c := c_) Try.underlying24 Try.underlying5 Try.underlying9 s0)
                   (try have hz1_ := own_string (P := Try.prog) Try.underlying24 Try.underlying5 Try.underlying9 s1)
                   (try have hz1_ := fun c_ : Nat => Kd.C_string (P := Try.prog) (c := c_) Try.underlying24 Try.underlying5 Try.underlying9 s1)
                   (try have hz2_ := own_string (P := Try.prog) Try.underlying24 Try.underlying5 Try.underlying9 s2)
                   (try have hz2_ := fun c_ : Nat => Kd.C_string (P := Try.prog) (c := c_) Try.underlying24 Try.underlying5 Try.underlying9 s2)
                   (try have hz3_ := own_string (P := Try.prog) Try.underlying24 Try.underlying5 Try.underlying9 s3)
                   (try have hz3_ := fun c_ : Nat => Kd.C_string (P := Try.prog) (c := c_) Try.underlying24 Try.underlying5 Try.underlying9 s3)
                   go_simp
                   with_reducible rfl
                  rotate_left
                  ·simp only [Act.put, List.setIfInBounds_toArray, List.set_cons_zero, List.set_cons_succ, i64_w, i32_w]
                   rfl
                  refine pure_ (i := 21) (N := some 95) (v := ?_) (a' := ?_) #[true, true, true, true, true, true, true, true, true, true, true, true, true, true, true, true, true, true, true, true, true, true, false, false, false, false, false, false] rfl rfl (any_of HT_.out (by kernel_rfl)) (fun _ _ _ h => h) (Or.inl ⟨by rfl, ?_⟩) ?_ ?_
                  rotate_left
                  ·intro w'
                   go_simp
                   with_reducible rfl
                  rotate_left
                  ·simp only [Act.put, List.setIfInBounds_toArray, List.set_cons_zero, List.set_cons_succ, i64_w, i32_w]
                   rfl
                  refine pure_ (i := 22) (N := some 96) (v := ?_) (a' := ?_) #[true, true, true, true, true, true, true, true, true, true, true, true, true, true, true, true, true, true, true, true, true, true, true, false, false, false, false, false] rfl rfl (any_of HT_.out (by kernel_rfl)) (fun _ _ _ h => h) (Or.inl ⟨by rfl, ?_⟩) ?_ ?_
                  rotate_left
                  ·intro w'
                   go_simp
                   with_reducible rfl
                  rotate_left
                  ·simp only [Act.put, List.setIfInBounds_toArray, List.set_cons_zero, List.set_cons_succ, i64_w, i32_w]
                   rfl
                  refine pure_ (i := 23) (N := some 97) (v := ?_) (a' := ?_) #[true, true, true, true, true, true, true, true, true, true, true, true, true, true, true, true, true, true, true, true, true, true, true, true, false, false, false, false] rfl rfl (any_of HT_.out (by kernel_rfl)) (fun _ _ _ h => h) (Or.inl ⟨by rfl, ?_⟩) ?_ ?_
                  rotate_left
                  ·intro w'
                   go_simp
                   with_reducible rfl
                  rotate_left
                  ·simp only [Act.put, List.setIfInBounds_toArray, List.set_cons_zero, List.set_cons_succ, i64_w, i32_w]
                   rfl
                  refine pure_ (i := 24) (N := some 98) (v := ?_) (a' := ?_) #[true, true, true, true, true, true, true, true, true, true, true, true, true, true, true, true, true, true, true, true, true, true, true, true, true, false, false, false] rfl rfl (any_of HT_.out (by kernel_rfl)) (fun _ _ _ h => h) (Or.inl ⟨by rfl, ?_⟩) ?_ ?_
                  rotate_left
                  ·intro w'
                   go_simp
                   with_reducible rfl
                  rotate_left
                  ·simp only [Act.put, List.setIfInBounds_toArray, List.set_cons_zero, List.set_cons_succ, i64_w, i32_w]
                   rfl
                  refine pure_ (i := 25) (N := some 99) (v := ?_) (a' := ?_) #[true, true, true, true, true, true, true, true, true, true, true, true, true, true, true, true, true, true, true, true, true, true, true, true, true, true, false, false] rfl rfl (any_of HT_.out (by kernel_rfl)) (fun _ _ _ h => h) (Or.inl ⟨by rfl, ?_⟩) ?_ ?_
                  rotate_left
                  ·intro w'
                   go_simp
                   with_reducible rfl
                  rotate_left
                  ·simp only [Act.put, List.setIfInBounds_toArray, List.set_cons_zero, List.set_cons_succ, i64_w, i32_w]
                   rfl
                  refine pure_ (i := 26) (N := some 100) (v := ?_) (a' := ?_) #[true, true, true, true, true, true, true, true, true, true, true, true, true, true, true, true, true, true, true, true, true, true, true, true, true, true, true, false] rfl rfl (any_of HT_.out (by kernel_rfl)) (fun _ _ _ h => h) (Or.inl ⟨by rfl, ?_⟩) ?_ ?_
                  rotate_left
                  ·intro w'
                   go_simp
                   with_reducible rfl
                  rotate_left
                  ·simp only [Act.put, List.setIfInBounds_toArray, List.set_cons_zero, List.set_cons_succ, i64_w, i32_w]
                   rfl
                  refine pure_ (i := 27) (N := some 101) (v := ?_) (a' := ?_) #[true, true, true, true, true, true, true, true, true, true, true, true, true, true, true, true, true, true, true, true, true, true, true, true, true, true, true, true] rfl rfl (any_of HT_.out (by kernel_rfl)) (fun _ _ _ h => h) (Or.inl ⟨by rfl, ?_⟩) ?_ ?_
                  rotate_left
                  ·intro w'
                   go_simp
                   with_reducible rfl
                  rotate_left
                  ·simp only [Act.put, List.setIfInBounds_toArray, List.set_cons_zero, List.set_cons_succ, i64_w, i32_w]
                   rfl
                  refine done_ (done_of HT_.out (by kernel_rfl)) ?_
                  (try (have n9_ := Aside0.mk (Kd.V_mono (ok' := (fun k_ => ((P0_ k_ ∨ P2_1_ k_ ∨ P3_ k_) ∨ w.heap.size ≤ k_) ∧ some k_ ≠ (v324 : Value).ownBlock ∧ some k_ ≠ (v332 : Value).ownBlock ∧ some k_ ≠ (.slice Ao30 t299.length co30 : Value).ownBlock ∧ some k_ ≠ (.slice (some ad321) y303.length co52 : Value).ownBlock ∧ k_ ≠ gb288 ∧ k_ ≠ gb297 ∧ k_ ≠ gb302 ∧ k_ ≠ gb322)) HO_3.out (fun k_ hk => ⟨hk.1.1.1.1, ⟨hk.1.2, ⟨hk.2, ⟨hk.1.1.1.2.2.1, ⟨hk.1.1.1.2.1, ⟨hk.1.1.1.2.2.2.1, ⟨hk.1.1.1.2.2.2.2.1, ⟨hk.1.1.1.2.2.2.2.2, hk.1.1.2⟩⟩⟩⟩⟩⟩⟩⟩)); clear HO_3; have HO_3 := n9_; clear n9_))
                  (try (have n9_ := Aside0.mk (Kd.N_mono (ok' := (fun k_ => ((P0_ k_ ∨ P2_1_ k_ ∨ P3_ k_) ∨ w.heap.size ≤ k_) ∧ some k_ ≠ (v324 : Value).ownBlock ∧ some k_ ≠ (v332 : Value).ownBlock ∧ some k_ ≠ (.slice Ao30 t299.length co30 : Value).ownBlock ∧ k_ ≠ gb288 ∧ k_ ≠ gb297 ∧ k_ ≠ gb302 ∧ k_ ≠ gb322)) HO_57.out (fun k_ hk => ⟨hk.1.1.1.1, ⟨hk.1.2, ⟨hk.2, ⟨hk.1.1.1.2.1, ⟨hk.1.1.1.2.2.1, ⟨hk.1.1.1.2.2.2.1, ⟨hk.1.1.1.2.2.2.2, hk.1.1.2⟩⟩⟩⟩⟩⟩⟩)); clear HO_57; have HO_57 := n9_; clear n9_))
                  (try (have n9_ := Aside0.mk (Kd.V_mono (ok' := (fun k_ => ((P0_ k_ ∨ P2_1_ k_ ∨ P3_ k_) ∨ w.heap.size ≤ k_) ∧ some k_ ≠ (v324 : Value).ownBlock ∧ some k_ ≠ (v332 : Value).ownBlock ∧ some k_ ≠ (.slice Ao30 t299.length co30 : Value).ownBlock ∧ some k_ ≠ (.slice (some ad321) y303.length co52 : Value).ownBlock ∧ k_ ≠ gb288 ∧ k_ ≠ gb297 ∧ k_ ≠ gb302 ∧ k_ ≠ gb322)) HO_289001.out (fun k_ hk => ⟨hk.1.1.1.1, ⟨hk.1.2, ⟨hk.2, ⟨hk.1.1.1.2.2.1, ⟨hk.1.1.1.2.1, ⟨hk.1.1.1.2.2.2.1, ⟨hk.1.1.1.2.2.2.2.1, ⟨hk.1.1.1.2.2.2.2.2, hk.1.1.2⟩⟩⟩⟩⟩⟩⟩⟩)); clear HO_289001; have HO_289001 := n9_; clear n9_))
                  (try (have n9_ := Aside0.mk (Kd.R_mono (ok' := (fun k_ => (w.heap.size ≤ k_) ∧ some k_ ≠ (v324 : Value).ownBlock ∧ some k_ ≠ (v332 : Value).ownBlock)) HO_303001.out (fun k_ hk => ⟨hk.1.1, ⟨hk.1.2, hk.2⟩⟩)); clear HO_303001; have HO_303001 := n9_; clear n9_))
                  (try (have n9_ := Aside0.mk (Kd.V_mono (ok' := (fun k_ => ((P0_ k_ ∨ P2_1_ k_ ∨ P3_ k_) ∨ w.heap.size ≤ k_) ∧ some k_ ≠ (v324 : Value).ownBlock ∧ some k_ ≠ (v332 : Value).ownBlock ∧ some k_ ≠ (.slice Ao30 t299.length co30 : Value).ownBlock ∧ some k_ ≠ (.slice (some ad321) y303.length co52 : Value).ownBlock ∧ k_ ≠ gb288 ∧ k_ ≠ gb297 ∧ k_ ≠ gb302 ∧ k_ ≠ gb322)) HL321_1.out (fun k_ hk => ⟨hk.1.1.1.1.1, ⟨hk.1.2, ⟨hk.2, ⟨hk.1.1.1.1.2.1, ⟨hk.1.1.1.2, ⟨hk.1.1.1.1.2.2.1, ⟨hk.1.1.1.1.2.2.2.1, ⟨hk.1.1.1.1.2.2.2.2, hk.1.1.2⟩⟩⟩⟩⟩⟩⟩⟩)); clear HL321_1; have HL321_1 := n9_; clear n9_))
                  (try (have n9_ := Aside0.mk (Kd.R_mono (ok' := (fun k_ => (w.heap.size ≤ k_) ∧ some k_ ≠ (v332 : Value).ownBlock ∧ some k_ ≠ (.slice Ao30 t299.length co30 : Value).ownBlock)) HO325.out (fun k_ hk => ⟨hk.1.1.1, ⟨hk.2, hk.1.2⟩⟩)); clear HO325; have HO325 := n9_; clear n9_))
                  (try (have n9_ := Aside0.mk (Kd.V_mono (ok' := (fun k_ => ((P0_ k_ ∨ P2_1_ k_ ∨ P3_ k_) ∨ w.heap.size ≤ k_) ∧ some k_ ≠ (v324 : Value).ownBlock ∧ some k_ ≠ (v332 : Value).ownBlock ∧ some k_ ≠ (.slice Ao30 t299.length co30 : Value).ownBlock ∧ some k_ ≠ (.slice (some ad321) y303.length co52 : Value).ownBlock ∧ k_ ≠ gb288 ∧ k_ ≠ gb297 ∧ k_ ≠ gb302 ∧ k_ ≠ gb322)) HO330.out (fun k_ hk => ⟨hk.1.1, ⟨hk.1.2.2.2.1, ⟨hk.2, ⟨hk.1.2.2.1, ⟨hk.1.2.1, ⟨hk.1.2.2.2.2.1, ⟨hk.1.2.2.2.2.2.1, ⟨hk.1.2.2.2.2.2.2.1, hk.1.2.2.2.2.2.2.2⟩⟩⟩⟩⟩⟩⟩⟩)); clear HO330; have HO330 := n9_; clear n9_))
                  (try (have n9_ := Aside0.mk (Kd.R_mono (ok' := (fun k_ => (w.heap.size ≤ k_) ∧ some k_ ≠ (v324 : Value).ownBlock ∧ some k_ ≠ (.slice Ao30 t299.length co30 : Value).ownBlock)) HO333.out (fun k_ hk => ⟨hk.1.1.1, ⟨hk.2, hk.1.2⟩⟩)); clear HO333; have HO333 := n9_; clear n9_))
                  (try (have n9_ := Aside0.mk (Kd.V_mono (ok' := (fun k_ => ((P0_ k_ ∨ P2_1_ k_ ∨ P3_ k_) ∨ w.heap.size ≤ k_) ∧ some k_ ≠ (v324 : Value).ownBlock ∧ some k_ ≠ (v332 : Value).ownBlock ∧ some k_ ≠ (.slice Ao30 t299.length co30 : Value).ownBlock ∧ some k_ ≠ (.slice (some ad321) y303.length co52 : Value).ownBlock ∧ k_ ≠ gb288 ∧ k_ ≠ gb297 ∧ k_ ≠ gb302 ∧ k_ ≠ gb322)) HO339.out (fun k_ hk => ⟨hk.1, ⟨hk.2.2.2.1, ⟨hk.2.2.2.2.1, ⟨hk.2.2.1, ⟨hk.2.1, ⟨hk.2.2.2.2.2.1, ⟨hk.2.2.2.2.2.2.1, ⟨hk.2.2.2.2.2.2.2.1, hk.2.2.2.2.2.2.2.2⟩⟩⟩⟩⟩⟩⟩⟩)); clear HO339; have HO339 := n9_; clear n9_))
                  (try (have n9_ := Aside0.mk (Kd.V_mono (ok' := (fun k_ => ((P0_ k_ ∨ P2_1_ k_ ∨ P3_ k_) ∨ w.heap.size ≤ k_) ∧ some k_ ≠ (v324 : Value).ownBlock ∧ some k_ ≠ (v332 : Value).ownBlock ∧ some k_ ≠ (.slice Ao30 t299.length co30 : Value).ownBlock ∧ some k_ ≠ (.slice (some ad321) y303.length co52 : Value).ownBlock ∧ k_ ≠ gb288 ∧ k_ ≠ gb297 ∧ k_ ≠ gb302 ∧ k_ ≠ gb322)) HO345.out (fun k_ hk => ⟨hk.1, ⟨hk.2.2.2.1, ⟨hk.2.2.2.2.1, ⟨hk.2.2.1, ⟨hk.2.1, ⟨hk.2.2.2.2.2.1, ⟨hk.2.2.2.2.2.2.1, ⟨hk.2.2.2.2.2.2.2.1, hk.2.2.2.2.2.2.2.2⟩⟩⟩⟩⟩⟩⟩⟩)); clear HO345; have HO345 := n9_; clear n9_))
                  try go_wp2_with (first | ((with_reducible refine gate_dst (N := 102) rfl ?_); (try (refine gate_guard (by rfl) ?_; dsimp only)); refine Kd.R_lit (Kd.int .u8) _ 5 ?hg (N := 102) ?hd (xs := ([] : List Int)) (inner := []) (ok := fun _ => True) (okp := fun _ => True) ?hr ?hp (fun _ hk => hk) trivial (Below.refl _ _) (Nat.le_refl _) (by simp) ?_; (case hd => rfl); (case hg => rfl); (case hr => first | (go_simp; done) | (go_simp; rfl)); (case hp => exact (Reps.none _ _)); intro v348 w91 ho92 hb hg_ hnew_; clear hg_ hnew_; (first | rw [← Ny347.out] at ho92 | (simp only [Int.reduceToNat] at ho92; rw [← Ny347.out] at ho92)); have n0_ := Aside0.mk (Kd.V_elder' (mV HO_3.out) (Kd.R_base ho92) hb); have n1_ := Aside0.mk (Kd.N_elder' (mN HO_57.out) (Kd.R_base ho92) hb); have n2_ := Aside0.mk (Kd.V_elder' (mV HO_289001.out) (Kd.R_base ho92) hb); have n3_ := Aside0.mk (Kd.R_elder' (mR HO_303001.out) (Kd.R_base ho92) hb); have n4_ := Aside0.mk (Kd.V_elder' (mV HL321_1.out) (Kd.R_base ho92) hb); have n5_ := Aside0.mk (Kd.R_elder' (mR HO325.out) (Kd.R_base ho92) hb); have n7_ := Aside0.mk (Kd.R_elder' (mR HO333.out) (Kd.R_base ho92) hb); have n10_ := Aside0.mk (Kd.R_lower (Kd.R_new' (Kd.R_new' (Kd.R_new' (Kd.R_newM (M := fun k_ => (w.heap.size ≤ k_)) ho92 (below_size mZ) (fun k_ h_ => h_)) (Kd.R_lt (mR HO_303001.out))) (Kd.R_lt (mR HO325.out))) (Kd.R_lt (mR HO333.out))) (below_size mZ)); have n11_ := Aside0.mk (blk_below (mK BK288.out) hb); have n12_ := Aside0.mk (blk_below (mK BK297.out) hb); have n13_ := Aside0.mk (blk_below (mK BK302.out) hb); have n14_ := Aside0.mk (blk_below (mK BK322.out) hb); have n15_ := Aside0.mk (below_step mZ hb); clear HO_3; clear HO_57; clear HO_289001; clear HO_303001; clear HL321_1; clear HO325; clear HO333; clear BK288; clear BK297; clear BK302; clear BK322; clear HB; have HO_3 := n0_; have HO_57 := n1_; have HO_289001 := n2_; have HO_303001 := n3_; have HL321_1 := n4_; have HO325 := n5_; have HO333 := n7_; have HO349 := n10_; have BK288 := n11_; have BK297 := n12_; have BK302 := n13_; have BK322 := n14_; have HB := n15_; clear n0_ n1_ n2_ n3_ n4_ n5_ n7_ n10_ n11_ n12_ n13_ n14_ n15_; clear hb ho92; obtain ⟨Ao94, co94, eo94⟩ := Kd.V_slice HO_3.out; subst eo94) | ((with_reducible refine gate_builtin (b := .append) (xs := #[.tmp 102, .tmp 103]) rfl ?_); (try (refine gate_guard (by rfl) ?_; dsimp only)); at_builtin; refine R_append_rows_wide (Kd.int .u8) .u8 rfl (w0 := w) w.heap.size rfl (.tmp 102) (.tmp 103) 24 5 (.int .u8 0) rfl Try.underlying24 info5 rfl v348 y347 x3_3 _ _ _ (fun k_ => (w.heap.size ≤ k_) ∧ some k_ ≠ (.slice Ao30 t299.length co30 : Value).ownBlock ∧ some k_ ≠ (v324 : Value).ownBlock ∧ some k_ ≠ (v332 : Value).ownBlock) rfl rfl ?aO ?aR ?aF ?aB ?aS ?aL ?_; (case aR => repeat (first | exact (Kd.V_reads' HO_3.out).2.2 | (with_reducible refine Kd.C_alloc ?_ _) | (with_reducible refine Kd.C_drewN ?_ _) | (with_reducible refine Kd.C_drew ?_))); (case aB => exact mZ); (case aF => exact (fun k_ hk => ⟨(Nat.le_trans (below_size mZ) hk), Kd.fresh' (Kd.R_lt (mR HO_303001.out)) k_ hk, Kd.fresh' (Kd.R_lt (mR HO325.out)) k_ hk, Kd.fresh' (Kd.R_lt (mR HO333.out)) k_ hk⟩)); (case aO => exact (by (with_reducible repeat (first | apply Kd.R_alloc | apply Kd.R_drewN | apply Kd.R_drew)); exact Kd.R_mono HO349.out (fun _ hk => ⟨hk.1.1.1.1, ⟨hk.1.1.2, ⟨hk.1.2, hk.2⟩⟩⟩))); (case aS => exact (below_size mZ)); (case aL => have := LMc69.out; omega); intro v351 w93 ho hb hg hat; rw [← Ny350.out] at ho; have n1_ := Aside0.mk (Kd.N_afterv (ok := (fun k_ => ((P0_ k_ ∨ P2_1_ k_ ∨ P3_ k_) ∨ w.heap.size ≤ k_) ∧ some k_ ≠ (.slice Ao30 t299.length co30 : Value).ownBlock ∧ some k_ ≠ (v324 : Value).ownBlock ∧ some k_ ≠ (v332 : Value).ownBlock ∧ k_ ≠ gb288 ∧ k_ ≠ gb297 ∧ k_ ≠ gb302 ∧ k_ ≠ gb322)) (by (with_reducible repeat (first | apply Kd.N_alloc | apply Kd.N_drewN | apply Kd.N_drew)); exact Kd.N_mono HO_57.out (fun _ hk => ⟨⟨hk.1.1, ⟨hk.1.2.2.2.1, ⟨hk.1.2.1, ⟨hk.1.2.2.1, ⟨hk.1.2.2.2.2.1, ⟨hk.1.2.2.2.2.2.1, ⟨hk.1.2.2.2.2.2.2.1, hk.1.2.2.2.2.2.2.2⟩⟩⟩⟩⟩⟩⟩, hk.2⟩)) hg hat); have n2_ := Aside0.mk (Kd.V_afterv (ok := (fun k_ => ((P0_ k_ ∨ P2_1_ k_ ∨ P3_ k_) ∨ w.heap.size ≤ k_) ∧ some k_ ≠ (.slice (some ad321) y303.length co52 : Value).ownBlock ∧ some k_ ≠ (.slice Ao30 t299.length co30 : Value).ownBlock ∧ some k_ ≠ (v324 : Value).ownBlock ∧ some k_ ≠ (v332 : Value).ownBlock ∧ k_ ≠ gb288 ∧ k_ ≠ gb297 ∧ k_ ≠ gb302 ∧ k_ ≠ gb322)) (by (with_reducible repeat (first | apply Kd.V_alloc | apply Kd.V_drewN | apply Kd.V_drew)); exact Kd.V_mono HO_289001.out (fun _ hk => ⟨⟨hk.1.1, ⟨hk.1.2.2.2.2.1, ⟨hk.1.2.2.2.1, ⟨hk.1.2.1, ⟨hk.1.2.2.1, ⟨hk.1.2.2.2.2.2.1, ⟨hk.1.2.2.2.2.2.2.1, ⟨hk.1.2.2.2.2.2.2.2.1, hk.1.2.2.2.2.2.2.2.2⟩⟩⟩⟩⟩⟩⟩⟩, hk.2⟩)) hg hat); have n3_ := Aside0.mk (Kd.R_after (ok := (fun k_ => (w.heap.size ≤ k_) ∧ some k_ ≠ (v324 : Value).ownBlock ∧ some k_ ≠ (v332 : Value).ownBlock)) (mR HO_303001.out) hg hat); have n4_ := Aside0.mk (blk_grown (mK BK288.out) hg (Kd.R_ne HO349.out BK288.out (by decide))); have n5_ := Aside0.mk (blk_grown (mK BK297.out) hg (Kd.R_ne HO349.out BK297.out (by decide))); have n6_ := Aside0.mk (blk_grown (mK BK302.out) hg (Kd.R_ne HO349.out BK302.out (by decide))); have n7_ := Aside0.mk (Kd.V_afterv (ok := (fun k_ => ((P0_ k_ ∨ P2_1_ k_ ∨ P3_ k_) ∨ w.heap.size ≤ k_) ∧ some k_ ≠ (.slice (some ad321) y303.length co52 : Value).ownBlock ∧ some k_ ≠ (.slice Ao30 t299.length co30 : Value).ownBlock ∧ some k_ ≠ (v324 : Value).ownBlock ∧ some k_ ≠ (v332 : Value).ownBlock ∧ k_ ≠ gb288 ∧ k_ ≠ gb297 ∧ k_ ≠ gb302 ∧ k_ ≠ gb322)) (by (with_reducible repeat (first | apply Kd.V_alloc | apply Kd.V_drewN | apply Kd.V_drew)); exact Kd.V_mono HL321_1.out (fun _ hk => ⟨⟨hk.1.1, ⟨hk.1.2.2.2.2.1, ⟨hk.1.2.2.2.1, ⟨hk.1.2.1, ⟨hk.1.2.2.1, ⟨hk.1.2.2.2.2.2.1, ⟨hk.1.2.2.2.2.2.2.1, ⟨hk.1.2.2.2.2.2.2.2.1, hk.1.2.2.2.2.2.2.2.2⟩⟩⟩⟩⟩⟩⟩⟩, hk.2⟩)) hg hat); have n8_ := Aside0.mk (blk_grown (mK BK322.out) hg (Kd.R_ne HO349.out BK322.out (by decide))); have n9_ := Aside0.mk (Kd.R_after (ok := (fun k_ => (w.heap.size ≤ k_) ∧ some k_ ≠ (.slice Ao30 t299.length co30 : Value).ownBlock ∧ some k_ ≠ (v332 : Value).ownBlock)) (by (with_reducible repeat (first | apply Kd.R_alloc | apply Kd.R_drewN | apply Kd.R_drew)); exact Kd.R_mono HO325.out (fun _ hk => ⟨⟨hk.1.1, ⟨hk.1.2.2, hk.1.2.1⟩⟩, hk.2⟩)) hg hat); have n11_ := Aside0.mk (Kd.R_after (ok := (fun k_ => (w.heap.size ≤ k_) ∧ some k_ ≠ (.slice Ao30 t299.length co30 : Value).ownBlock ∧ some k_ ≠ (v324 : Value).ownBlock)) (by (with_reducible repeat (first | apply Kd.R_alloc | apply Kd.R_drewN | apply Kd.R_drew)); exact Kd.R_mono HO333.out (fun _ hk => ⟨⟨hk.1.1, ⟨hk.1.2.2, hk.1.2.1⟩⟩, hk.2⟩)) hg hat); have n14_ := Aside0.mk (hb); have n15_ := Aside0.mk (ho); clear HO_3; clear HO_57; clear HO_289001; clear HO_303001; clear BK288; clear BK297; clear BK302; clear HL321_1; clear BK322; clear HO325; clear HO333; clear HB; clear HO349; have HO_57 := n1_; have HO_289001 := n2_; have HO_303001 := n3_; have BK288 := n4_; have BK297 := n5_; have BK302 := n6_; have HL321_1 := n7_; have BK322 := n8_; have HO325 := n9_; have HO333 := n11_; have HB := n14_; have HO352 := n15_; clear n1_ n2_ n3_ n4_ n5_ n6_ n7_ n8_ n9_ n11_ n14_ n15_; clear ho hb hg hat; obtain ⟨Ao96, co96, eo96⟩ := Kd.R_slice HO333.out; subst eo96) | ((with_reducible refine gate_builtin (b := .append) (xs := #[.tmp 104, .tmp 105]) rfl ?_); (try (refine gate_guard (by rfl) ?_; dsimp only)); at_builtin; refine R_append_rows_wide (Kd.int .u8) .u8 rfl (w0 := w) w.heap.size rfl (.tmp 104) (.tmp 105) 24 5 (.int .u8 0) rfl Try.underlying24 info5 rfl v351 y350 t331 _ _ _ (fun k_ => (w.heap.size ≤ k_) ∧ some k_ ≠ (.slice Ao30 t299.length co30 : Value).ownBlock ∧ some k_ ≠ (v324 : Value).ownBlock ∧ some k_ ≠ (.slice Ao96 t331.length co96 : Value).ownBlock) rfl rfl ?aO ?aR ?aF ?aB ?aS ?aL ?_; (case aR => repeat (first | exact (Kd.R_reads' HO333.out).2.2 | (with_reducible refine Kd.C_alloc ?_ _) | (with_reducible refine Kd.C_drewN ?_ _) | (with_reducible refine Kd.C_drew ?_))); (case aB => exact mZ); (case aF => exact (fun k_ hk => ⟨(Nat.le_trans (below_size mZ) hk), Kd.fresh' (Kd.R_lt (mR HO_303001.out)) k_ hk, Kd.fresh' (Kd.R_lt (mR HO325.out)) k_ hk, Kd.fresh' (Kd.R_lt (mR HO333.out)) k_ hk⟩)); (case aO => exact (mR HO352.out)); (case aS => exact (below_size mZ)); (case aL => have := LMc70.out; omega); intro v354 w95 ho hb hg hat; rw [← Ny353.out] at ho; have n1_ := Aside0.mk (Kd.N_afterv (ok := (fun k_ => ((P0_ k_ ∨ P2_1_ k_ ∨ P3_ k_) ∨ w.heap.size ≤ k_) ∧ some k_ ≠ (.slice Ao30 t299.length co30 : Value).ownBlock ∧ some k_ ≠ (v324 : Value).ownBlock ∧ some k_ ≠ (.slice Ao96 t331.length co96 : Value).ownBlock ∧ k_ ≠ gb288 ∧ k_ ≠ gb297 ∧ k_ ≠ gb302 ∧ k_ ≠ gb322)) (mN HO_57.out) hg hat); have n2_ := Aside0.mk (Kd.V_afterv (ok := (fun k_ => ((P0_ k_ ∨ P2_1_ k_ ∨ P3_ k_) ∨ w.heap.size ≤ k_) ∧ some k_ ≠ (.slice (some ad321) y303.length co52 : Value).ownBlock ∧ some k_ ≠ (.slice Ao30 t299.length co30 : Value).ownBlock ∧ some k_ ≠ (v324 : Value).ownBlock ∧ some k_ ≠ (.slice Ao96 t331.length co96 : Value).ownBlock ∧ k_ ≠ gb288 ∧ k_ ≠ gb297 ∧ k_ ≠ gb302 ∧ k_ ≠ gb322)) (mV HO_289001.out) hg hat); have n3_ := Aside0.mk (Kd.R_after (ok := (fun k_ => (w.heap.size ≤ k_) ∧ some k_ ≠ (v324 : Value).ownBlock ∧ some k_ ≠ (.slice Ao96 t331.length co96 : Value).ownBlock)) (mR HO_303001.out) hg hat); have n4_ := Aside0.mk (blk_grown (mK BK288.out) hg (Kd.R_ne HO352.out BK288.out (by decide))); have n5_ := Aside0.mk (blk_grown (mK BK297.out) hg (Kd.R_ne HO352.out BK297.out (by decide))); have n6_ := Aside0.mk (blk_grown (mK BK302.out) hg (Kd.R_ne HO352.out BK302.out (by decide))); have n7_ := Aside0.mk (Kd.V_afterv (ok := (fun k_ => ((P0_ k_ ∨ P2_1_ k_ ∨ P3_ k_) ∨ w.heap.size ≤ k_) ∧ some k_ ≠ (.slice (some ad321) y303.length co52 : Value).ownBlock ∧ some k_ ≠ (.slice Ao30 t299.length co30 : Value).ownBlock ∧ some k_ ≠ (v324 : Value).ownBlock ∧ some k_ ≠ (.slice Ao96 t331.length co96 : Value).ownBlock ∧ k_ ≠ gb288 ∧ k_ ≠ gb297 ∧ k_ ≠ gb302 ∧ k_ ≠ gb322)) (mV HL321_1.out) hg hat); have n8_ := Aside0.mk (blk_grown (mK BK322.out) hg (Kd.R_ne HO352.out BK322.out (by decide))); have n14_ := Aside0.mk (hb); have n15_ := Aside0.mk (ho); clear HO_57; clear HO_289001; clear HO_303001; clear BK288; clear BK297; clear BK302; clear HL321_1; clear BK322; clear HO325; clear HO333; clear HB; clear HO352; have HO_57 := n1_; have HO_289001 := n2_; have HO_303001 := n3_; have BK288 := n4_; have BK297 := n5_; have BK302 := n6_; have HL321_1 := n7_; have BK322 := n8_; have HB := n14_; have HO355 := n15_; clear n1_ n2_ n3_ n4_ n5_ n6_ n7_ n8_ n14_ n15_; clear ho hb hg hat))
                  go_roundg k3
                  case measure => have := HJ6.out; have := HJ17.out; have := HK3.out; omega
                  case rel => exact ⟨(y353), (wrap64 (x59_3 + 1)), (by first | rfl | (simp; done) | (simp [*]; done)), H', ⟨by have := HJ6.out; have := HJ17.out; have := HK3.out; omega⟩, ⟨Kd.R_V (by (with_reducible repeat (first | apply Kd.R_alloc | apply Kd.R_drewN | apply Kd.R_drew)); exact Kd.R_mono (Kd.R_types (Kd.R_types (Kd.R_types (Kd.R_apart' HO355.out (Kd.N_typed HO_57.out) (by decide)) BK288.out (by decide)) BK297.out (by decide)) BK302.out (by decide)) (fun _ hk => ⟨.inr hk.1.1.1.1.1, ⟨hk.1.1.1.2, ⟨hk.1.1.1.1.2.1, ⟨hk.1.1.2, ⟨hk.1.2, hk.2⟩⟩⟩⟩⟩))⟩, ⟨by (with_reducible repeat (first | apply Kd.N_alloc | apply Kd.N_drewN | apply Kd.N_drew)); exact Kd.N_mono HO_57.out (fun _ hk => ⟨hk.1.1, ⟨hk.1.2.1, ⟨hk.1.2.2.2.2.1, ⟨hk.1.2.2.2.2.2.1, hk.1.2.2.2.2.2.2.1⟩⟩⟩⟩)⟩, ⟨by (with_reducible repeat (first | apply Kd.V_alloc | apply Kd.V_drewN | apply Kd.V_drew)); exact Kd.V_mono HO_289001.out (fun _ hk => ⟨hk.1.1, ⟨hk.1.2.1, ⟨hk.1.2.2.1, ⟨hk.1.2.2.2.2.2.1, ⟨hk.1.2.2.2.2.2.2.1, hk.1.2.2.2.2.2.2.2.1⟩⟩⟩⟩⟩)⟩, ⟨by (with_reducible repeat (first | apply Kd.R_alloc | apply Kd.R_drewN | apply Kd.R_drew)); exact Kd.R_mono HO_303001.out (fun _ hk => hk.1.1)⟩, ⟨mK BK288.out⟩, ⟨mK BK297.out⟩, ⟨mK BK302.out⟩, ⟨mZ⟩⟩
                 ·rw [if_neg c70] at H
                  exact absurd H (by simp)
                ·rw [if_neg c69] at H
                 exact absurd H (by simp)
               ·rw [if_neg c68] at H
                have c68b0 : (t326 == t334) = false := beq_eq_false_iff_ne.mpr c68
                have c68b1 : (t326 != t334) = true := bne_iff_ne.mpr c68
                exact absurd ((Option.some.inj H).trans hrt_.out) (by decide)
              ·rw [if_neg c67] at H
               have c67b0 : ((strOfNums t323).toList == (strOfNums t331).toList) = false := beq_eq_false_iff_ne.mpr c67
               have c67b1 : ((strOfNums t323).toList != (strOfNums t331).toList) = true := bne_iff_ne.mpr c67
               exact absurd ((Option.some.inj H).trans hrt_.out) (by decide)
           ·rw [if_neg c55] at H
            exact absurd H (by simp)
          ·rw [if_neg c54] at H
           exact absurd H (by simp)
         ·rw [if_neg c53] at H
          have c53b0 : decide (x59_3 < (y303.length : Int)) = false := decide_eq_false c53
          clear c53
          replace H := Option.bind_eq_some_iff.mp H
          obtain ⟨⟨t306, t307, t310, t311⟩, A970, H⟩ := H
          replace H : ((columbariumref9_Decode.f k3 x3_3 a4).bind fun bt313 => (if t306 = bt313.1 then (if (strOfNums t307).toList = (strOfNums bt313.2.1).toList then (if t310 = bt313.2.2.1 then (if t311 = bt313.2.2.2 then ((columbariumlaw9_known.f k3).bind fun t320 => (some t320)) else (some false)) else (some false)) else (some false)) else (some false))) = some r := H
          have A97 := Aside0.mk A970
          clear A970
          replace H := Option.bind_eq_some_iff.mp H
          obtain ⟨⟨t313, t314, t317, t318⟩, A980, H⟩ := H
          replace H : (if t306 = t313 then (if (strOfNums t307).toList = (strOfNums t314).toList then (if t310 = t317 then (if t311 = t318 then ((columbariumlaw9_known.f k3).bind fun t320 => (some t320)) else (some false)) else (some false)) else (some false)) else (some false)) = some r := H
          have A98 := Aside0.mk A980
          clear A980
          by_cases c99 : t306 = t313
          ·rw [if_pos c99] at H
           have c99b0 : (t306 == t313) = true := beq_iff_eq.mpr c99
           have c99b1 : (t306 != t313) = false := bne_eq_false_iff_eq.mpr c99
           clear c99
           by_cases c100 : (strOfNums t307).toList = (strOfNums t314).toList
           ·rw [if_pos c100] at H
            have c100b0 : ((strOfNums t307).toList == (strOfNums t314).toList) = true := beq_iff_eq.mpr c100
            have c100b1 : ((strOfNums t307).toList != (strOfNums t314).toList) = false := bne_eq_false_iff_eq.mpr c100
            clear c100
            by_cases c101 : t310 = t317
            ·rw [if_pos c101] at H
             have c101b0 : (t310 == t317) = true := beq_iff_eq.mpr c101
             have c101b1 : (t310 != t317) = false := bne_eq_false_iff_eq.mpr c101
             clear c101
             by_cases c102 : t311 = t318
             ·rw [if_pos c102] at H
              have c102b0 : (t311 == t318) = true := beq_iff_eq.mpr c102
              have c102b1 : (t311 != t318) = false := bne_eq_false_iff_eq.mpr c102
              clear c102
              replace H := Option.bind_eq_some_iff.mp H
              obtain ⟨t320, A1030, H⟩ := H
              replace H : (some t320) = some r := H
              have A103 := Aside0.mk A1030
              clear A1030
              obtain rfl := Option.some.inj H
              obtain ⟨Ao104, co104, eo104⟩ := Kd.V_slice HO_3.out
              subst eo104
              go_wp2_with (first | ((with_reducible refine gate_callee (f := 21) rfl ?_); refine goesL_ (some 111) rfl rfl Try.func21 (by kernel_rfl) rfl #[.slice Ao104 x3_3.length co104, .int .i64 a4] rfl (by (try simp only [List.map_toArray, List.map_cons, List.map_nil]); first | done | rfl | (simp only [List.length_drop, List.length_take]; rfl)) ?_; (with_reducible refine (bloom_Decode.calls k3 _ _ x3_3 a4 t306 t307 t310 t311 _ ?side1 ?side2 A97.out).mono ?_); (case side1 => repeat (first | exact (Kd.V_reads' HO_3.out).2.2 | (with_reducible refine Kd.C_alloc ?_ _) | (with_reducible refine Kd.C_drewN ?_ _) | (with_reducible refine Kd.C_drew ?_))); (case side2 => exact (Kd.V_reads' HO_3.out).2.1); rintro e w105 ⟨v308, rfl, ho0, hb⟩; refine ⟨_, rfl, ?_⟩; have n0_ := Aside0.mk (Kd.V_elder' (mV HO_3.out) (Kd.R_base ho0) hb); have n3_ := Aside0.mk (Kd.R_elder' (mR HO_303001.out) (Kd.R_base ho0) hb); have n4_ := Aside0.mk (Kd.R_lower (Kd.R_new' (Kd.R_newM (M := fun k_ => (w.heap.size ≤ k_)) ho0 (below_size mZ) (fun k_ h_ => h_)) (Kd.R_lt (mR HO_303001.out))) (below_size mZ)); have n5_ := Aside0.mk (blk_below (mK BK288.out) hb); have n6_ := Aside0.mk (blk_below (mK BK297.out) hb); have n7_ := Aside0.mk (blk_below (mK BK302.out) hb); have n8_ := Aside0.mk (below_step mZ hb); clear HO_3; clear HO_303001; clear BK288; clear BK297; clear BK302; clear HB; have HO_3 := n0_; have HO_303001 := n3_; have HO309 := n4_; have BK288 := n5_; have BK297 := n6_; have BK302 := n7_; have HB := n8_; clear n0_ n3_ n4_ n5_ n6_ n7_ n8_; (try clear hb); (try clear hb2); (try clear hk); (try clear hi); (try clear ho0)) | ((with_reducible refine gate_dst (N := 19) rfl ?_); (try (refine gate_guard (by rfl) ?_; dsimp only)); refine box_event ?hg (N := 19) ?hd (cs := #[.int .i64 0, .slice none 0 0]) (t := 26) ?hr ?_; (case hd => rfl); (case hg => rfl); (case hr => first | (go_simp; done) | (go_simp; rfl)); intro gb312 hg w106 hbox hb; have n0_ := Aside0.mk (Kd.V_below (Kd.V_elderB (mV HO_3.out) gb312 (Nat.le_of_eq hg.symm)) hb); have n3_ := Aside0.mk (Kd.R_below (mR HO_303001.out) hb); have n4_ := Aside0.mk (Kd.R_below (mR HO309.out) hb); have n5_ := Aside0.mk (blk_below (mK BK288.out) hb); have n6_ := Aside0.mk (blk_below (mK BK297.out) hb); have n7_ := Aside0.mk (blk_below (mK BK302.out) hb); have n8_ := Aside0.mk (below_step mZ hb); have n9_ := Aside0.mk (hbox); have n10_ := Aside0.mk ((by rw [hg]; exact (below_size mZ) : w.heap.size ≤ gb312)); have n11_ := n10_; have n12_ := Aside0.mk ((by rw [hg]; exact Nat.ne_of_lt (blk_lt (mK BK288.out)) : gb288 ≠ gb312)); have n13_ := Aside0.mk ((by rw [hg]; exact Nat.ne_of_gt (blk_lt (mK BK288.out)) : gb312 ≠ gb288)); have n14_ := Aside0.mk ((by rw [hg]; exact Nat.ne_of_lt (blk_lt (mK BK297.out)) : gb297 ≠ gb312)); have n15_ := Aside0.mk ((by rw [hg]; exact Nat.ne_of_gt (blk_lt (mK BK297.out)) : gb312 ≠ gb297)); have n16_ := Aside0.mk ((by rw [hg]; exact Nat.ne_of_lt (blk_lt (mK BK302.out)) : gb302 ≠ gb312)); have n17_ := Aside0.mk ((by rw [hg]; exact Nat.ne_of_gt (blk_lt (mK BK302.out)) : gb312 ≠ gb302)); clear HO_3; clear HO_303001; clear HO309; clear BK288; clear BK297; clear BK302; clear HB; have HO_3 := n0_; have HO_303001 := n3_; have HO309 := n4_; have BK288 := n5_; have BK297 := n6_; have BK302 := n7_; have HB := n8_; have BK312 := n9_; have GW312 := n10_; have GE312 := n11_; have NB288_312 := n12_; have NB312_288 := n13_; have NB297_312 := n14_; have NB312_297 := n15_; have NB302_312 := n16_; have NB312_302 := n17_; clear n0_ n3_ n4_ n5_ n6_ n7_ n8_ n9_ n10_ n11_ n12_ n13_ n14_ n15_ n16_ n17_; clear hb hbox hg; have hnb107 := NB312_288.out; have hnc107 := NB288_312.out; have hnb108 := NB312_297.out; have hnc108 := NB297_312.out; have hnb109 := NB312_302.out; have hnc109 := NB302_312.out; obtain ⟨hcz110_0, hcz110_1, hfz110_0, hfz110_1⟩ := cells_2 BK312.out; obtain ⟨Ao111, co111, eo111⟩ := Kd.R_slice HO309.out; subst eo111) | ((with_reducible refine gate_callee (f := 22) rfl ?_); refine goesL_ (some 118) rfl rfl Try.func22 (by kernel_rfl) rfl #[.slice Ao104 x3_3.length co104, .int .i64 a4] rfl (by (try simp only [List.map_toArray, List.map_cons, List.map_nil]); first | done | rfl | (simp only [List.length_drop, List.length_take]; rfl)) ?_; (with_reducible refine (columbariumref9_Decode.calls k3 _ _ x3_3 a4 t313 t314 t317 t318 _ ?side1 ?side2 A98.out).mono ?_); (case side1 => refine (Kd.V_reads' (e := 5) (base := w.heap.size) (ok := fun k_ => (((((P0_ k_ ∨ P2_1_ k_ ∨ P3_ k_) ∨ w.heap.size ≤ k_) ∧ (some k_ ≠ (.slice Ao52 y303.length co52 : Value).ownBlock ∧ (some k_ ≠ (.slice Ao30 t299.length co30 : Value).ownBlock ∧ (k_ ≠ gb288 ∧ (k_ ≠ gb297 ∧ k_ ≠ gb302))))) ∧ some k_ ≠ (.slice Ao111 t307.length co111 : Value).ownBlock) ∧ k_ ≠ gb312)) (n := x3_3.length) (c := co104) ?_).2.2; exact (by (with_reducible repeat (first | apply Kd.V_alloc | apply Kd.V_drewN | apply Kd.V_drew)); exact (Kd.V_mono (Kd.V_far (p := ⟨gb312, 1, none⟩) (Kd.V_far (p := ⟨gb312, 0, none⟩) (Kd.V_mono HO_3.out (fun k_ hk => (⟨hk, hk.2⟩ : _ ∧ k_ ≠ gb312))) (fun _ hk => hk.2) (.int .i64 t306)) (fun _ hk => hk.2) (.slice Ao111 t307.length co111)) (fun _ h_ => h_.1)))); (case side2 => exact (Kd.V_reads' HO_3.out).2.1); rintro e w112 ⟨v315, rfl, ho0, hb⟩; refine ⟨_, rfl, ?_⟩; have n4_ := Aside0.mk (Kd.R_elder' (by (with_reducible repeat (first | apply Kd.R_alloc | apply Kd.R_drewN | apply Kd.R_drew)); exact (Kd.R_mono (Kd.R_far (p := ⟨gb312, 1, none⟩) (Kd.R_far (p := ⟨gb312, 0, none⟩) (Kd.R_types HO309.out BK312.out (by decide)) (fun _ hk => hk.2) (.int .i64 t306)) (fun _ hk => hk.2) (.slice Ao111 t307.length co111)) (fun _ h_ => h_.1))) (Kd.R_base ho0) hb); have n5_ := Aside0.mk (Kd.R_lower (Kd.R_new' (Kd.R_new' (Kd.R_newM (M := fun k_ => (w.heap.size ≤ k_)) ho0 (below_size mZ) (fun k_ h_ => h_)) (Kd.R_lt (by (with_reducible repeat (first | apply Kd.R_alloc | apply Kd.R_drewN | apply Kd.R_drew)); exact (Kd.R_mono (Kd.R_far (p := ⟨gb312, 1, none⟩) (Kd.R_far (p := ⟨gb312, 0, none⟩) (Kd.R_types HO_303001.out BK312.out (by decide)) (fun _ hk => hk.2) (.int .i64 t306)) (fun _ hk => hk.2) (.slice Ao111 t307.length co111)) (fun _ h_ => h_.1))))) (Kd.R_lt (by (with_reducible repeat (first | apply Kd.R_alloc | apply Kd.R_drewN | apply Kd.R_drew)); exact (Kd.R_mono (Kd.R_far (p := ⟨gb312, 1, none⟩) (Kd.R_far (p := ⟨gb312, 0, none⟩) (Kd.R_types HO309.out BK312.out (by decide)) (fun _ hk => hk.2) (.int .i64 t306)) (fun _ hk => hk.2) (.slice Ao111 t307.length co111)) (fun _ h_ => h_.1))))) (below_size mZ)); have n6_ := Aside0.mk (blk_below (g := gb288) (o := .cells #[.int .i64 a2_0, .slice A2_1 l2_1.length c2_1] 26 (0, 0)) (by (with_reducible repeat (first | refine blk_drewN ?_ _ | refine blk_drew ?_ | refine blk_alloc ?_ _)); refine blk_far ?_ NB288_312.out _; refine blk_far ?_ NB288_312.out _; (with_reducible repeat (first | refine blk_drewN ?_ _ | refine blk_drew ?_ | refine blk_alloc ?_ _)); exact BK288.out) hb); have n7_ := Aside0.mk (blk_below (g := gb297) (o := .cells #[.int .i64 t293, .slice Ao24 t294.length co24] 26 (0, 0)) (by (with_reducible repeat (first | refine blk_drewN ?_ _ | refine blk_drew ?_ | refine blk_alloc ?_ _)); refine blk_far ?_ NB297_312.out _; refine blk_far ?_ NB297_312.out _; (with_reducible repeat (first | refine blk_drewN ?_ _ | refine blk_drew ?_ | refine blk_alloc ?_ _)); exact BK297.out) hb); have n8_ := Aside0.mk (blk_below (g := gb302) (o := .cells #[.int .i64 t298, .slice Ao30 t299.length co30] 36 (0, 0)) (by (with_reducible repeat (first | refine blk_drewN ?_ _ | refine blk_drew ?_ | refine blk_alloc ?_ _)); refine blk_far ?_ NB302_312.out _; refine blk_far ?_ NB302_312.out _; (with_reducible repeat (first | refine blk_drewN ?_ _ | refine blk_drew ?_ | refine blk_alloc ?_ _)); exact BK302.out) hb); have n9_ := Aside0.mk (blk_below (g := gb312) (o := .cells #[.int .i64 t306, .slice Ao111 t307.length co111] 26 (0, 0)) (by (with_reducible repeat (first | refine blk_drewN ?_ _ | refine blk_drew ?_ | refine blk_alloc ?_ _)); apply puts_2; (with_reducible repeat (first | refine blk_drewN ?_ _ | refine blk_drew ?_ | refine blk_alloc ?_ _)); exact BK312.out) hb); have n10_ := Aside0.mk (below_step mZ hb); clear HO_3; clear HO_303001; clear HO309; clear BK288; clear BK297; clear BK302; clear BK312; clear HB; have HO309 := n4_; have HO316 := n5_; have BK288 := n6_; have BK297 := n7_; have BK302 := n8_; have BK312 := n9_; have HB := n10_; clear n4_ n5_ n6_ n7_ n8_ n9_ n10_; (try clear hb); (try clear hb2); (try clear hk); (try clear hi); (try clear ho0)) | ((with_reducible refine gate_dst (N := 22) rfl ?_); (try (refine gate_guard (by rfl) ?_; dsimp only)); refine box_event ?hg (N := 22) ?hd (cs := #[.int .i64 0, .slice none 0 0]) (t := 36) ?hr ?_; (case hd => rfl); (case hg => rfl); (case hr => first | (go_simp; done) | (go_simp; rfl)); intro gb319 hg w113 hbox hb; have n4_ := Aside0.mk (Kd.R_below (mR HO309.out) hb); have n5_ := Aside0.mk (Kd.R_below (mR HO316.out) hb); have n6_ := Aside0.mk (blk_below (mK BK288.out) hb); have n7_ := Aside0.mk (blk_below (mK BK297.out) hb); have n8_ := Aside0.mk (blk_below (mK BK302.out) hb); have n9_ := Aside0.mk (blk_below (mK BK312.out) hb); have n10_ := Aside0.mk (below_step mZ hb); have n11_ := Aside0.mk (hbox); have n12_ := Aside0.mk ((by rw [hg]; exact (below_size mZ) : w.heap.size ≤ gb319)); have n13_ := n12_; have n14_ := Aside0.mk ((by rw [hg]; exact Nat.ne_of_lt (blk_lt (mK BK288.out)) : gb288 ≠ gb319)); have n15_ := Aside0.mk ((by rw [hg]; exact Nat.ne_of_gt (blk_lt (mK BK288.out)) : gb319 ≠ gb288)); have n16_ := Aside0.mk ((by rw [hg]; exact Nat.ne_of_lt (blk_lt (mK BK297.out)) : gb297 ≠ gb319)); have n17_ := Aside0.mk ((by rw [hg]; exact Nat.ne_of_gt (blk_lt (mK BK297.out)) : gb319 ≠ gb297)); have n18_ := Aside0.mk ((by rw [hg]; exact Nat.ne_of_lt (blk_lt (mK BK302.out)) : gb302 ≠ gb319)); have n19_ := Aside0.mk ((by rw [hg]; exact Nat.ne_of_gt (blk_lt (mK BK302.out)) : gb319 ≠ gb302)); have n20_ := Aside0.mk ((by rw [hg]; exact Nat.ne_of_lt (blk_lt (mK BK312.out)) : gb312 ≠ gb319)); have n21_ := Aside0.mk ((by rw [hg]; exact Nat.ne_of_gt (blk_lt (mK BK312.out)) : gb319 ≠ gb312)); clear HO309; clear HO316; clear BK288; clear BK297; clear BK302; clear BK312; clear HB; have HO309 := n4_; have HO316 := n5_; have BK288 := n6_; have BK297 := n7_; have BK302 := n8_; have BK312 := n9_; have HB := n10_; have BK319 := n11_; have GW319 := n12_; have GE319 := n13_; have NB288_319 := n14_; have NB319_288 := n15_; have NB297_319 := n16_; have NB319_297 := n17_; have NB302_319 := n18_; have NB319_302 := n19_; have NB312_319 := n20_; have NB319_312 := n21_; clear n4_ n5_ n6_ n7_ n8_ n9_ n10_ n11_ n12_ n13_ n14_ n15_ n16_ n17_ n18_ n19_ n20_ n21_; clear hb hbox hg; have hnb114 := NB319_288.out; have hnc114 := NB288_319.out; have hnb115 := NB319_297.out; have hnc115 := NB297_319.out; have hnb116 := NB319_302.out; have hnc116 := NB302_319.out; have hnb117 := NB319_312.out; have hnc117 := NB312_319.out; obtain ⟨hcz118_0, hcz118_1, hfz118_0, hfz118_1⟩ := cells_2 BK319.out; obtain ⟨Ao119, co119, eo119⟩ := Kd.R_slice HO316.out; subst eo119; obtain ⟨hcz120_0, hcz120_1, hfz120_0, hfz120_1⟩ := cells_2 BK312.out; have hcv121 := own_string (P := Try.prog) Try.underlying24 Try.underlying5 Try.underlying9 (Kd.own_of_R ((Kd.R_far (p := ⟨gb319, 1, none⟩) (Kd.R_far (p := ⟨gb319, 0, none⟩) (Kd.R_types HO309.out BK319.out (by decide)) (fun _ hk => hk.2) (.int .i64 t313)) (fun _ hk => hk.2) (.slice Ao119 t314.length co119)))); have hcv122 := own_string (P := Try.prog) Try.underlying24 Try.underlying5 Try.underlying9 (Kd.own_of_R ((Kd.R_far (p := ⟨gb319, 1, none⟩) (Kd.R_far (p := ⟨gb319, 0, none⟩) (Kd.R_types HO316.out BK319.out (by decide)) (fun _ hk => hk.2) (.int .i64 t313)) (fun _ hk => hk.2) (.slice Ao119 t314.length co119))))) | (go_at_call 14; (with_reducible refine (columbariumlaw9_known.calls k3  t320 _ A103.out).mono ?_); rintro e w123 ⟨rfl, hb⟩; have n6_ := Aside0.mk (blk_below (g := gb288) (o := .cells #[.int .i64 a2_0, .slice A2_1 l2_1.length c2_1] 26 (0, 0)) (by (with_reducible repeat (first | refine blk_drewN ?_ _ | refine blk_drew ?_ | refine blk_alloc ?_ _)); refine blk_far ?_ NB288_319.out _; refine blk_far ?_ NB288_319.out _; (with_reducible repeat (first | refine blk_drewN ?_ _ | refine blk_drew ?_ | refine blk_alloc ?_ _)); exact BK288.out) hb); have n7_ := Aside0.mk (blk_below (g := gb297) (o := .cells #[.int .i64 t293, .slice Ao24 t294.length co24] 26 (0, 0)) (by (with_reducible repeat (first | refine blk_drewN ?_ _ | refine blk_drew ?_ | refine blk_alloc ?_ _)); refine blk_far ?_ NB297_319.out _; refine blk_far ?_ NB297_319.out _; (with_reducible repeat (first | refine blk_drewN ?_ _ | refine blk_drew ?_ | refine blk_alloc ?_ _)); exact BK297.out) hb); have n8_ := Aside0.mk (blk_below (g := gb302) (o := .cells #[.int .i64 t298, .slice Ao30 t299.length co30] 36 (0, 0)) (by (with_reducible repeat (first | refine blk_drewN ?_ _ | refine blk_drew ?_ | refine blk_alloc ?_ _)); refine blk_far ?_ NB302_319.out _; refine blk_far ?_ NB302_319.out _; (with_reducible repeat (first | refine blk_drewN ?_ _ | refine blk_drew ?_ | refine blk_alloc ?_ _)); exact BK302.out) hb); have n9_ := Aside0.mk (blk_below (g := gb312) (o := .cells #[.int .i64 t306, .slice Ao111 t307.length co111] 26 (0, 0)) (by (with_reducible repeat (first | refine blk_drewN ?_ _ | refine blk_drew ?_ | refine blk_alloc ?_ _)); refine blk_far ?_ NB312_319.out _; refine blk_far ?_ NB312_319.out _; (with_reducible repeat (first | refine blk_drewN ?_ _ | refine blk_drew ?_ | refine blk_alloc ?_ _)); exact BK312.out) hb); have n10_ := Aside0.mk (blk_below (g := gb319) (o := .cells #[.int .i64 t313, .slice Ao119 t314.length co119] 36 (0, 0)) (by (with_reducible repeat (first | refine blk_drewN ?_ _ | refine blk_drew ?_ | refine blk_alloc ?_ _)); apply puts_2; (with_reducible repeat (first | refine blk_drewN ?_ _ | refine blk_drew ?_ | refine blk_alloc ?_ _)); exact BK319.out) hb); have n11_ := Aside0.mk (below_step mZ hb); clear BK288; clear BK297; clear BK302; clear BK312; clear BK319; clear HB; have BK288 := n6_; have BK297 := n7_; have BK302 := n8_; have BK312 := n9_; have BK319 := n10_; have HB := n11_; clear n6_ n7_ n8_ n9_ n10_ n11_; (try clear hb); (try clear hb2); (try clear hk); (try clear hi)))
              go_ret
              exact ⟨by first | rfl | (simp [errW_none, errW_some] <;> rfl) | (simp [*, errW_none, errW_some] <;> rfl), mZ⟩
             ·rw [if_neg c102] at H
              have c102b0 : (t311 == t318) = false := beq_eq_false_iff_ne.mpr c102
              have c102b1 : (t311 != t318) = true := bne_iff_ne.mpr c102
              exact absurd ((Option.some.inj H).trans hrt_.out) (by decide)
            ·rw [if_neg c101] at H
             have c101b0 : (t310 == t317) = false := beq_eq_false_iff_ne.mpr c101
             have c101b1 : (t310 != t317) = true := bne_iff_ne.mpr c101
             exact absurd ((Option.some.inj H).trans hrt_.out) (by decide)
           ·rw [if_neg c100] at H
            have c100b0 : ((strOfNums t307).toList == (strOfNums t314).toList) = false := beq_eq_false_iff_ne.mpr c100
            have c100b1 : ((strOfNums t307).toList != (strOfNums t314).toList) = true := bne_iff_ne.mpr c100
            exact absurd ((Option.some.inj H).trans hrt_.out) (by decide)
          ·rw [if_neg c99] at H
           have c99b0 : (t306 == t313) = false := beq_eq_false_iff_ne.mpr c99
           have c99b1 : (t306 != t313) = true := bne_iff_ne.mpr c99
           exact absurd ((Option.some.inj H).trans hrt_.out) (by decide)
/-- What may be read, of a struct of the type 26. -/
def ok26 (x : S26) : Prop := (Lit.int .i64 x.f0).wf = true ∧ (x.f1.length ≤ maxLen ∧ ∀ x_ ∈ x.f1, (Lit.int .u8 x_).wf = true)

/-- THE ONE PURE STATEMENT of columbariumlaw9_BloomTells: yours. -/
def columbariumlaw9_BloomTells.Pure : Prop := ∀ (l0 : List ByteArray) (a1 : ByteArray) (a2_0 : Int) (l2_1 : List Int) (l3 : List Int) (a4 : Int), l0.length ≤ maxLen → (∀ x ∈ l0, x.size ≤ maxLen) → a1.size ≤ 140737488351232 → (Lit.int .i64 a2_0).wf = true → (l2_1.length ≤ maxLen ∧ ∀ x_ ∈ l2_1, (Lit.int .u8 x_).wf = true) → l3.length ≤ maxLen → l3.length * 1 ≤ 140737488351232 → (∀ x ∈ l3, (Lit.int .u8 x).wf = true) → (Lit.int .i64 a4).wf = true → ∃ k, columbariumlaw9_BloomTells.f k l0 a1 a2_0 l2_1 l3 a4 = some true
theorem columbariumlaw9_BloomTells.walk (P : columbariumlaw9_BloomTells.Pure) (a0 : Option Addr) (cap0 : Nat) (l0 : List ByteArray) (a1 : ByteArray) (a2_0 : Int) (A2_1 : Option Addr) (c2_1 : Nat) (l2_1 : List Int) (a3 : Option Addr) (len3 cap3 : Nat) (z3 : List Int) (a4 : Int) (w : World) (hr0 : Kd.C Kd.string w a0 l0.length l0) (hc0 : l0.length ≤ cap0) (hm0 : l0.length ≤ maxLen) (hw0 : ∀ x ∈ l0, x.size ≤ maxLen) (w1 : a1.size ≤ 140737488351232) (ho2_0 : (Lit.int .i64 a2_0).wf = true) (hr2_1 : Kd.C (Kd.int .u8) w A2_1 l2_1.length l2_1) (hc2_1 : l2_1.length ≤ c2_1) (ho2_1 : (l2_1.length ≤ maxLen ∧ ∀ x_ ∈ l2_1, (Lit.int .u8 x_).wf = true)) (w3 : (a3 = none ∧ len3 = 0 ∧ cap3 = 0 ∧ z3 = []) ∨ ∃ x, a3 = some x ∧ len3 ≤ cap3 ∧ cap3 ≤ maxLen ∧ z3.length = cap3 ∧ (∀ i, i < z3.length → w.cell? (x.add i) = some (.int .u8 (z3.getD i 0))) ∧ ∀ n ∈ z3, (Lit.int .u8 n).wf = true) (y3 : len3 * 1 ≤ 140737488351232) (w4 : (Lit.int .i64 a4).wf = true) :
  Calls Try.prog 7 #[.slice a0 l0.length cap0, .string a1, .agg #[.int .i64 a2_0, .slice A2_1 l2_1.length c2_1], .slice a3 len3 cap3, .int .i64 a4] w fun e w' => e = .returned (.bool true) ∧ Below w.heap.size w w' := by
 obtain ⟨l3, rfl, hr3, hm3, hw3, hc3⟩ := ReadsInt.ofRowC w3
 obtain ⟨k, h⟩ := P l0 a1 a2_0 l2_1 l3 a4 hm0 hw0 w1 ho2_0 ho2_1 hm3 y3 hw3 w4
 refine (columbariumlaw9_BloomTells.calls k (fun k_ => k_ < w.heap.size) _ _ l0 a1 a2_0 (fun k_ => k_ < w.heap.size) _ _ l2_1 (fun k_ => k_ < w.heap.size) _ _ l3 a4 true w (Kd.V_mk hc0 (Kd.C_F Kd.heap_string hr0)) (Kd.V_mk hc2_1 (Kd.C_F (Kd.heap_int .u8) hr2_1)) (Kd.V_mk hc3 (Kd.C_F (Kd.heap_int .u8) (Kd.C_of_reads (d := (0 : Int)) (h1 := fun _ => rfl) hr3))) ⟨rfl⟩ h).mono ?_
 rintro e w' ⟨rfl, hd⟩
 exact ⟨rfl, hd⟩

end Go.Proofs.Ytifcocmmapgebaa.QBloomTells
