-- Written by a program of this session (wip/myprint.py): the machine's side of a law
import Derived.Test.YtalpcnomfebdiaaQPredRulesx0
import Derived.Test.YtalpcnomfebdiaaQPredRulesx6
namespace Go.Proofs.Ytalpcnomfebdiaa.QPredRules
open Go.RowKit Go.Proofs.YtalpcnomfebdiaaW.PrintWords Go.Proofs.YtalpcnomfebdiaaW.PrintLast Go.Proofs.YtalpcnomfebdiaaW.PrintMore
attribute [local go_sem] max2_int min2_int max_two min_two max_three min_three max_four min_four   -- for this text's walks alone
set_option linter.unusedVariables false
set_option linter.unusedSimpArgs false

/-! ### columbariumkeep_Pred: function 9 -/
def columbariumkeep_Pred.f (k : Nat) (a0_0 : Int) (a0_1 : ByteArray) (a0_2 : Int) (a0_3 : Int) (a0_4 : ByteArray) (l0_5 : List ByteArray) (l0_6 : List (S25)) (a1_0 : Int) (a1_1 : ByteArray) (a1_2 : Int) (a1_3 : Int) (a1_4 : ByteArray) (l1_5 : List ByteArray) (l1_6 : List (S25)) : Option (Bool) := (columbariumref13_Same.f k a0_0 a0_1 a0_2 a0_3 a0_4 l0_5 l0_6 a1_0 a1_1 a1_2 a1_3 a1_4 l1_5 l1_6).bind fun t170 => (some t170)
theorem columbariumkeep_Pred.mono : ∀ a0 a1 a2 a3 a4 a5 a6 a7 a8 a9 a10 a11 a12 a13 k, LeO (columbariumkeep_Pred.f k a0 a1 a2 a3 a4 a5 a6 a7 a8 a9 a10 a11 a12 a13) (columbariumkeep_Pred.f (k + 1) a0 a1 a2 a3 a4 a5 a6 a7 a8 a9 a10 a11 a12 a13) := by
 intro a0 a1 a2 a3 a4 a5 a6 a7 a8 a9 a10 a11 a12 a13 k
 unfold columbariumkeep_Pred.f
 repeat' first
   | (with_reducible exact columbariumref13_Same.mono _ _ _ _ _ _ _ _ _ _ _ _ _ _ _)
   | (with_reducible exact LeO.refl _)
   | (with_reducible exact LeO.none _)
   | (with_reducible refine LeO.ite ?_ ?_)
   | (with_reducible refine LeO.bind ?_ (fun _ => ?_))
   | exact columbariumref13_Same.mono _ _ _ _ _ _ _ _ _ _ _ _ _ _ _
   | exact LeO.none _
   | refine LeO.ite ?_ ?_
   | refine LeO.bind ?_ (fun _ => ?_)
set_option maxHeartbeats 8000000 in
set_option maxRecDepth 100000 in
theorem columbariumkeep_Pred.calls (k : Nat) (a0_0 : Int) (a0_1 : ByteArray) (a0_2 : Int) (a0_3 : Int) (a0_4 : ByteArray) (A0_5 : Option Addr) (c0_5 : Nat) (l0_5 : List ByteArray) (A0_6 : Option Addr) (c0_6 : Nat) (l0_6 : List (S25)) (a1_0 : Int) (a1_1 : ByteArray) (a1_2 : Int) (a1_3 : Int) (a1_4 : ByteArray) (A1_5 : Option Addr) (c1_5 : Nat) (l1_5 : List ByteArray) (A1_6 : Option Addr) (c1_6 : Nat) (l1_6 : List (S25)) (r : Bool) (w : World) (hr0_5 : Kd.C Kd.string w A0_5 l0_5.length l0_5) (hc0_5 : l0_5.length ≤ c0_5) (hr0_6 : Kd.C k25 w A0_6 l0_6.length l0_6) (hc0_6 : l0_6.length ≤ c0_6) (hr1_5 : Kd.C Kd.string w A1_5 l1_5.length l1_5) (hc1_5 : l1_5.length ≤ c1_5) (hr1_6 : Kd.C k25 w A1_6 l1_6.length l1_6) (hc1_6 : l1_6.length ≤ c1_6) (h : columbariumkeep_Pred.f k a0_0 a0_1 a0_2 a0_3 a0_4 l0_5 l0_6 a1_0 a1_1 a1_2 a1_3 a1_4 l1_5 l1_6 = some r) :
  Calls Try.prog 9 #[.agg #[.int .i64 a0_0, .string a0_1, .int .i64 a0_2, .int .i64 a0_3, .string a0_4, .slice A0_5 l0_5.length c0_5, .slice A0_6 l0_6.length c0_6], .agg #[.int .i64 a1_0, .string a1_1, .int .i64 a1_2, .int .i64 a1_3, .string a1_4, .slice A1_5 l1_5.length c1_5, .slice A1_6 l1_6.length c1_6]] w fun e w' => e = .returned (.bool r) ∧ Below w.heap.size w w' := by
 have hu25 := Try.underlying25
 have HR0_5 := zM hr0_5
 have HC0_5 := zM hc0_5
 clear hr0_5 hc0_5
 have HR0_6 := zM hr0_6
 have HC0_6 := zM hc0_6
 clear hr0_6 hc0_6
 have HR1_5 := zM hr1_5
 have HC1_5 := zM hc1_5
 clear hr1_5 hc1_5
 have HR1_6 := zM hr1_6
 have HC1_6 := zM hc1_6
 clear hr1_6 hc1_6
 have HB := zM (Below.refl w.heap.size w)
 have H : ((columbariumref13_Same.f k a0_0 a0_1 a0_2 a0_3 a0_4 l0_5 l0_6 a1_0 a1_1 a1_2 a1_3 a1_4 l1_5 l1_6).bind fun t170 => (some t170)) = some r := h
 clear h
 replace H := Option.bind_eq_some_iff.mp H
 obtain ⟨t170, A30, H⟩ := H
 try dsimp only at H
 have A3 := zM A30
 clear A30
 obtain rfl := Option.some.inj H
 go_enter Try.func9, Try.ntmps9
 go_wp2_with (first | ((with_reducible refine gate_dst (N := 2) rfl ?_); refine box_event ?hg (N := 2) ?hd (cs := #[.int .i64 a0_0, .string a0_1, .int .i64 a0_2, .int .i64 a0_3, .string a0_4, .slice A0_5 l0_5.length c0_5, .slice A0_6 l0_6.length c0_6]) (t := 25) ?hr ?_; (case hd => rfl); (case hg => rfl); (case hr => first | (go_simp; done) | (go_simp; rfl)); intro gb168 hg w4 hbox hb; have BK168 := zM (hbox); have GW168 := zM ((by rw [hg]; exact (below_size (mB HB.out)) : w.heap.size ≤ gb168)); replace HB := zM (below_step (mB HB.out) hb); have GE168 := GW168; clear hb hbox hg) | ((with_reducible refine gate_dst (N := 3) rfl ?_); refine box_event ?hg (N := 3) ?hd (cs := #[.int .i64 a1_0, .string a1_1, .int .i64 a1_2, .int .i64 a1_3, .string a1_4, .slice A1_5 l1_5.length c1_5, .slice A1_6 l1_6.length c1_6]) (t := 25) ?hr ?_; (case hd => rfl); (case hg => rfl); (case hr => first | (go_simp; done) | (go_simp; rfl)); intro gb169 hg w5 hbox hb; have BK169 := zM (hbox); have GW169 := zM ((by rw [hg]; exact (below_size mZ) : w.heap.size ≤ gb169)); replace HB := zM (below_step mZ hb); have GE169 := GW169; have NB168_169 := zL BK168 hg; have NB169_168 := zG BK168 hg; replace BK168 := zK BK168 hb; clear hb hbox hg; have hnb6 := NB168_169.out; have hnc6 := NB169_168.out; obtain ⟨hcz7_0, hcz7_1, hcz7_2, hcz7_3, hcz7_4, hcz7_5, hcz7_6, hfz7_0, hfz7_1, hfz7_2, hfz7_3, hfz7_4, hfz7_5, hfz7_6⟩ := cells_7 BK168.out; obtain ⟨hcz8_0, hcz8_1, hcz8_2, hcz8_3, hcz8_4, hcz8_5, hcz8_6, hfz8_0, hfz8_1, hfz8_2, hfz8_3, hfz8_4, hfz8_5, hfz8_6⟩ := cells_7 BK169.out) | ((with_reducible refine gate_callee (f := 26) rfl ?_); refine goesL_ (some 7) rfl rfl Try.func26 (by kernel_rfl) rfl #[.agg #[.int .i64 a0_0, .string a0_1, .int .i64 a0_2, .int .i64 a0_3, .string a0_4, .slice A0_5 l0_5.length c0_5, .slice A0_6 l0_6.length c0_6], .agg #[.int .i64 a1_0, .string a1_1, .int .i64 a1_2, .int .i64 a1_3, .string a1_4, .slice A1_5 l1_5.length c1_5, .slice A1_6 l1_6.length c1_6]] rfl yb ?_; (with_reducible refine (columbariumref13_Same.calls k a0_0 a0_1 a0_2 a0_3 a0_4 _ _ l0_5 _ _ l0_6 a1_0 a1_1 a1_2 a1_3 a1_4 _ _ l1_5 _ _ l1_6 t170 _ ?side1 ?side2 ?side3 ?side4 ?side5 ?side6 ?side7 ?side8 A3.out).mono ?_); (case side1 => exact zC (Kd.C_below HR0_5.out HB.out)); (case side2 => first | exact HC0_5.out | exact Kd.V_mono HC0_5.out (fun k_ hk_ => by grind)); (case side3 => exact zC (Kd.C_below HR0_6.out HB.out)); (case side4 => first | exact HC0_6.out | exact Kd.V_mono HC0_6.out (fun k_ hk_ => by grind)); (case side5 => exact zC (Kd.C_below HR1_5.out HB.out)); (case side6 => first | exact HC1_5.out | exact Kd.V_mono HC1_5.out (fun k_ hk_ => by grind)); (case side7 => exact zC (Kd.C_below HR1_6.out HB.out)); (case side8 => first | exact HC1_6.out | exact Kd.V_mono HC1_6.out (fun k_ hk_ => by grind)); rintro e w9 ⟨rfl, hb⟩; refine ⟨_, rfl, ?_⟩; replace BK168 := zK BK168 hb; replace BK169 := zK BK169 hb; replace HB := zM (below_step mZ hb); (try clear hb)))
 go_ret
 exact ⟨by first | rfl | (simp [errW_none, errW_some] <;> rfl) | (simp [*, errW_none, errW_some] <;> rfl), mZ⟩

/-! ### slices_Clone_string_string: function 40 -/
/-! slices.Clone at []string: by hand -/
def slices_Clone_string_string.f (l0 : List ByteArray) : Option (List ByteArray) := if l0.length < 8796093022208 then (some l0) else none
set_option maxHeartbeats 8000000 in
set_option maxRecDepth 100000 in
theorem slices_Clone_string_string.calls (A0 : Option Addr) (c0 : Nat) (l0 : List ByteArray) (r : List ByteArray) (w : World) (hr0 : Kd.C Kd.string w A0 l0.length l0) (hc0 : l0.length ≤ c0) (h : slices_Clone_string_string.f l0 = some r) :
  Calls Try.prog 40 #[.slice A0 l0.length c0] w fun e w' => ∃ v0_ : Value, e = .returned (v0_) ∧ Kd.R Kd.string 9 w' w.heap.size (fun _ => True) v0_ r ∧ Below w.heap.size w w' := by
 unfold slices_Clone_string_string.f at h
 by_cases hl : l0.length < 8796093022208
 ·rw [if_pos hl] at h
  obtain rfl := Option.some.inj h
  have HR0 := zM hr0
  have HC0 := zM hc0
  have HL0 := zM hl
  have HB := zM (Below.refl w.heap.size w)
  clear hc0 hl h
  cases A0 with
  | none =>
   have h0 : l0 = [] := by
    rcases Nat.eq_zero_or_pos l0.length with h0 | h0
    ·exact List.eq_nil_of_length_eq_zero h0
    obtain ⟨ad, e, _⟩ := hr0.2.2 h0
    cases e
   subst h0
   clear hr0
   have hq := Lib.run_eql_slice_nil (P := Try.prog)
   go_enter Try.func40, Try.ntmps40
   go_wp2
   go_ret
   exact ⟨_, rfl, Kd.R_nil _ _ _ _ _, HB.out⟩
  | some ad =>
   clear hr0
   have hq := Lib.run_eql_slice_nil (P := Try.prog)
   go_enter Try.func40, Try.ntmps40
   go_wp2_with (first | ((with_reducible refine gate_dst (N := 5) rfl ?_); refine Kd.R_lit Kd.string _ 9 ?hg (N := 5) ?hd (xs := ([] : List ByteArray)) (inner := []) (ok := fun _ => True) (okp := fun _ => True) ?hr ?hp (fun _ hk => hk) trivial (Below.refl _ _) (Nat.le_refl _) (by simp) ?_; (case hd => rfl); (case hg => rfl); (case hr => first | (go_simp; done) | (go_simp; rfl)); (case hp => exact (Reps.none _ _)); intro v1 w1 ho1 hb1 hg1 hn1; clear hg1 hn1; have HO := zM ho1; have HB1 := zM hb1; have HR1 := zM (Kd.C_below HR0.out hb1); clear ho1 hb1) | ((with_reducible refine gate_builtin (b := .append) (xs := #[.tmp 5, .tmp 6]) rfl ?_); at_builtin; refine Kd.R_append_rows Kd.string (w0 := w) w.heap.size rfl (.tmp 5) (.tmp 6) 22 9 (.string ByteArray.empty) 16 rfl Try.underlying22 info9 rfl (by decide) (by omega) v1 [] l0 _ _ _ (fun _ => True) (fun _ => False) rfl rfl ?aO ?aR (fun _ _ h => h) (fun _ h => h.elim) ?aF ?aB ?aS ?aL ?_; (case aO => exact HO.out); (case aR => exact HR1.out); (case aB => exact HB1.out); (case aF => exact fun _ _ => trivial); (case aS => exact below_size HB1.out); (case aL => have := HL0.out; simp only [List.length_nil, Nat.zero_add]; omega); intro v2 w2 ho2 hb2 hg2 hat2; rw [List.nil_append] at ho2; have HO2 := zM ho2; have HB2 := zM hb2; clear ho2 hb2 hg2 hat2))
   go_ret
   exact ⟨_, rfl, HO2.out, HB2.out⟩
 rw [if_neg hl] at h
 cases h

/-! ### pred_Copy: function 27 -/
mutual
def pred_Copy.l0 : Nat → List (S25) → Int → Int → Int → ByteArray → Int → Int → ByteArray → List ByteArray → List (S25) → Option (Int × ByteArray × Int × Int × ByteArray × List ByteArray × (List (S25)))
 | 0, _, _, _, _, _, _, _, _, _, _ => none
 | k + 1, x13, x14, x15, x172000, x172001, x172002, x172003, x172004, x172005, x172006 => if x15 < x14 then (if 0 ≤ x15 then (if x15 < (x13.length : Int) then ((pred_Copy.f k ((rd_T25 x13 x15).f0) ((rd_T25 x13 x15).f1) ((rd_T25 x13 x15).f2) ((rd_T25 x13 x15).f3) ((rd_T25 x13 x15).f4) ((rd_T25 x13 x15).f5) ((rd_T25 x13 x15).f6)).bind fun bt178 => (if x172006.length < 1353245080339 then (pred_Copy.l0 k x13 x14 (wrap64 (x15 + 1)) x172000 x172001 x172002 x172003 x172004 x172005 (x172006 ++ [(⟨bt178.1, bt178.2.1, bt178.2.2.1, bt178.2.2.2.1, bt178.2.2.2.2.1, bt178.2.2.2.2.2.1, bt178.2.2.2.2.2.2⟩ : S25)])) else (none))) else (none)) else (none)) else (some (x172000, x172001, x172002, x172003, x172004, x172005, x172006))
def pred_Copy.f : Nat → Int → ByteArray → Int → Int → ByteArray → List ByteArray → List (S25) → Option (Int × ByteArray × Int × Int × ByteArray × List ByteArray × (List (S25)))
 | 0, _, _, _, _, _, _, _ => none
 | k + 1, a0_0, a0_1, a0_2, a0_3, a0_4, l0_5, l0_6 => (slices_Clone_string_string.f l0_5).bind fun t173 => (pred_Copy.l0 k l0_6 (l0_6.length : Int) 0 a0_0 a0_1 a0_2 a0_3 a0_4 t173 ([] : List (S25)))
end
theorem pred_Copy.mono_l : ∀ k, (∀ y0 y1 y2 y3 y4 y5 y6, LeO (pred_Copy.f k y0 y1 y2 y3 y4 y5 y6) (pred_Copy.f (k + 1) y0 y1 y2 y3 y4 y5 y6)) ∧ (∀ y0 y1 y2 y3 y4 y5 y6 y7 y8 y9, LeO (pred_Copy.l0 k y0 y1 y2 y3 y4 y5 y6 y7 y8 y9) (pred_Copy.l0 (k + 1) y0 y1 y2 y3 y4 y5 y6 y7 y8 y9))
 | 0 => ⟨fun _ _ _ _ _ _ _ r h => by simp [pred_Copy.f] at h, fun _ _ _ _ _ _ _ _ _ _ r h => by simp [pred_Copy.l0] at h⟩
 | k + 1 => by
  obtain ⟨ih0, ih1⟩ := pred_Copy.mono_l k
  refine ⟨?_, ?_⟩
  ·intro y0 y1 y2 y3 y4 y5 y6
   unfold pred_Copy.f
   repeat' first
   | (with_reducible exact ih0 _ _ _ _ _ _ _)
   | (with_reducible exact ih1 _ _ _ _ _ _ _ _ _ _)
   | (with_reducible exact LeO.refl _)
   | (with_reducible exact LeO.none _)
   | (with_reducible refine LeO.ite ?_ ?_)
   | (with_reducible refine LeO.bind ?_ (fun _ => ?_))
   | exact ih0 _ _ _ _ _ _ _
   | exact ih1 _ _ _ _ _ _ _ _ _ _
   | exact LeO.none _
   | refine LeO.ite ?_ ?_
   | refine LeO.bind ?_ (fun _ => ?_)
  intro y0 y1 y2 y3 y4 y5 y6 y7 y8 y9
  unfold pred_Copy.l0
  repeat' first
  | (with_reducible exact ih0 _ _ _ _ _ _ _)
  | (with_reducible exact ih1 _ _ _ _ _ _ _ _ _ _)
  | (with_reducible exact LeO.refl _)
  | (with_reducible exact LeO.none _)
  | (with_reducible refine LeO.ite ?_ ?_)
  | (with_reducible refine LeO.bind ?_ (fun _ => ?_))
  | exact ih0 _ _ _ _ _ _ _
  | exact ih1 _ _ _ _ _ _ _ _ _ _
  | exact LeO.none _
  | refine LeO.ite ?_ ?_
  | refine LeO.bind ?_ (fun _ => ?_)
theorem pred_Copy.mono : ∀ a0 a1 a2 a3 a4 a5 a6 k, LeO (pred_Copy.f k a0 a1 a2 a3 a4 a5 a6) (pred_Copy.f (k + 1) a0 a1 a2 a3 a4 a5 a6) := by
 intro a0 a1 a2 a3 a4 a5 a6 k
 obtain ⟨ih0, ih1⟩ := pred_Copy.mono_l k
 exact ih0 a0 a1 a2 a3 a4 a5 a6
def pred_Copy.T7 : Bool × List (List Nat × List Nat) := (true, [([], []), ([0], [0]), ([], []), ([2], [2]), ([3], [3]), ([1, 4, 3], [1, 4]), ([0, 1, 2, 3, 4, 5], []), ([6, 5, 5, 0, 1, 2, 3, 4, 5], [5, 6])])
def pred_Copy.B7 : List Nat := [0, 1, 0, 4, 12, 31, 63, 127]
theorem pred_Copy.tab7 : rtab .any (opsOf Try.f27 7) = pred_Copy.T7 := by kernel_rfl
theorem pred_Copy.bits7 : waitsOk pred_Copy.T7.2 pred_Copy.B7 = true := by kernel_rfl
set_option maxHeartbeats 8000000 in
set_option maxRecDepth 100000 in
theorem pred_Copy.calls (k : Nat) : ∀ (a0_0 : Int) (a0_1 : ByteArray) (a0_2 : Int) (a0_3 : Int) (a0_4 : ByteArray) (A0_5 : Option Addr) (c0_5 : Nat) (l0_5 : List ByteArray) (A0_6 : Option Addr) (c0_6 : Nat) (l0_6 : List (S25)) (r1 : Int) (r2 : ByteArray) (r3 : Int) (r4 : Int) (r5 : ByteArray) (r6 : List ByteArray) (r7 : List (S25)) (w : World) (hr0_5 : Kd.C Kd.string w A0_5 l0_5.length l0_5) (hc0_5 : l0_5.length ≤ c0_5) (hr0_6 : Kd.C k25 w A0_6 l0_6.length l0_6) (hc0_6 : l0_6.length ≤ c0_6) (h : pred_Copy.f k a0_0 a0_1 a0_2 a0_3 a0_4 l0_5 l0_6 = some (r1, r2, r3, r4, r5, r6, r7)),
  Calls Try.prog 27 #[.agg #[.int .i64 a0_0, .string a0_1, .int .i64 a0_2, .int .i64 a0_3, .string a0_4, .slice A0_5 l0_5.length c0_5, .slice A0_6 l0_6.length c0_6]] w fun e w' => ∃ v5_ v6_ : Value, e = .returned (.agg #[.int .i64 r1, .string r2, .int .i64 r3, .int .i64 r4, .string r5, v5_, v6_]) ∧ Kd.R Kd.string 9 w' w.heap.size (fun _ => True) v5_ r6 ∧ Kd.R k25 25 w' w.heap.size (fun k_ => some k_ ≠ (v5_ : Value).ownBlock) v6_ r7 ∧ Below w.heap.size w w' := by
 induction k using Nat.strongRecOn with
 | _ k ih =>
 intro a0_0 a0_1 a0_2 a0_3 a0_4 A0_5 c0_5 l0_5 A0_6 c0_6 l0_6 r1 r2 r3 r4 r5 r6 r7 w hr0_5 hc0_5 hr0_6 hc0_6 h
 cases k with
 | zero => exact absurd h (by simp [pred_Copy.f])
 | succ k =>
 simp only [pred_Copy.f] at h
 have hu25 := Try.underlying25
 have HR0_5 := zM hr0_5
 have HC0_5 := zM hc0_5
 clear hr0_5 hc0_5
 have HR0_6 := zM hr0_6
 have HC0_6 := zM hc0_6
 clear hr0_6 hc0_6
 have HB := zM (Below.refl w.heap.size w)
 have H : ((slices_Clone_string_string.f l0_5).bind fun t173 => (pred_Copy.l0 k l0_6 (l0_6.length : Int) 0 a0_0 a0_1 a0_2 a0_3 a0_4 t173 ([] : List (S25)))) = some (r1, r2, r3, r4, r5, r6, r7) := h
 clear h
 replace H := Option.bind_eq_some_iff.mp H
 obtain ⟨t173, A20, H⟩ := H
 try dsimp only at H
 have A2 := zM A20
 clear A20
 have H' := Aside0.mk H
 clear H
 go_enter Try.func27, Try.ntmps27
 go_wp2_with (first | ((with_reducible refine gate_dst (N := 1) rfl ?_); refine box_event ?hg (N := 1) ?hd (cs := #[.int .i64 a0_0, .string a0_1, .int .i64 a0_2, .int .i64 a0_3, .string a0_4, .slice A0_5 l0_5.length c0_5, .slice A0_6 l0_6.length c0_6]) (t := 25) ?hr ?_; (case hd => rfl); (case hg => rfl); (case hr => first | (go_simp; done) | (go_simp; rfl)); intro gb171 hg w3 hbox hb; have BK171 := zM (hbox); have GW171 := zM ((by rw [hg]; exact (below_size (mB HB.out)) : w.heap.size ≤ gb171)); replace HB := zM (below_step (mB HB.out) hb); have GE171 := GW171; clear hb hbox hg) | ((with_reducible refine gate_dst (N := 2) rfl ?_); refine box_event ?hg (N := 2) ?hd (cs := #[.int .i64 0, .string (⟨#[]⟩ : ByteArray), .int .i64 0, .int .i64 0, .string (⟨#[]⟩ : ByteArray), .slice none 0 0, .slice none 0 0]) (t := 25) ?hr ?_; (case hd => rfl); (case hg => rfl); (case hr => first | (go_simp; done) | (go_simp; rfl)); intro gb172 hg w4 hbox hb; have BK172 := zM (hbox); have GW172 := zM ((by rw [hg]; exact (below_size mZ) : w.heap.size ≤ gb172)); replace HB := zM (below_step mZ hb); have GE172 := GW172; have NB171_172 := zL BK171 hg; have NB172_171 := zG BK171 hg; replace BK171 := zK BK171 hb; clear hb hbox hg; have hnb5 := NB171_172.out; have hnc5 := NB172_171.out; obtain ⟨hcz6_0, hcz6_1, hcz6_2, hcz6_3, hcz6_4, hcz6_5, hcz6_6, hfz6_0, hfz6_1, hfz6_2, hfz6_3, hfz6_4, hfz6_5, hfz6_6⟩ := cells_7 BK171.out) | ((with_reducible refine gate_callee (f := 40) rfl ?_); refine goesL_ (some 8) rfl rfl Try.func40 (by kernel_rfl) rfl #[.slice A0_5 l0_5.length c0_5] rfl yb ?_; (with_reducible refine (slices_Clone_string_string.calls _ _ l0_5 t173 _ ?side1 ?side2 A2.out).mono ?_); (case side1 => exact zC (Kd.C_below HR0_5.out HB.out)); (case side2 => first | exact HC0_5.out | exact Kd.V_mono HC0_5.out (fun k_ hk_ => by grind)); rintro e w7 ⟨v174, rfl, ho0, hb⟩; refine ⟨_, rfl, ?_⟩; have HO175 := zM (Kd.R_lower ho0 (below_size mZ)); replace BK171 := zK BK171 hb; replace BK172 := zK BK172 hb; replace HB := zM (below_step mZ hb); (try clear hb); (try clear ho0); obtain ⟨Ao8, co8, eo8⟩ := Kd.R_slice HO175.out; subst eo8; obtain ⟨hcz9_0, hcz9_1, hcz9_2, hcz9_3, hcz9_4, hcz9_5, hcz9_6, hfz9_0, hfz9_1, hfz9_2, hfz9_3, hfz9_4, hfz9_5, hfz9_6⟩ := cells_7 BK171.out))
 try simp only [Act.put, List.setIfInBounds_toArray, List.set_cons_zero, List.set_cons_succ]
 go_loopg [15] k (fun kq v15 w' => ∃ (x15_1 : Int) (x172006_1 : List (S25)) (u172006 : Value), v15 = .int .i64 x15_1 ∧ Aside0 (pred_Copy.l0 kq l0_6 (l0_6.length : Int) x15_1 a0_0 a0_1 a0_2 a0_3 a0_4 t173 x172006_1 = some (r1, r2, r3, r4, r5, r6, r7)) ∧ Aside0 (kq ≤ k) ∧ Aside0 (Kd.R Kd.string 9 w' w.heap.size (fun _ => True) (.slice Ao8 t173.length co8) t173) ∧ Aside0 (Kd.R k25 25 w' w.heap.size (fun k_ => nb k_ Ao8 t173.length co8 ∧ k_ ≠ gb171 ∧ k_ ≠ gb172) u172006 x172006_1) ∧ Aside0 (w'.heap[gb171]? = some (.cells #[.int .i64 a0_0, .string a0_1, .int .i64 a0_2, .int .i64 a0_3, .string a0_4, (.slice Ao8 t173.length co8), u172006] 25 (0, 0))) ∧ Aside0 (w'.heap[gb172]? = some (.cells #[.int .i64 0, .string (⟨#[]⟩ : ByteArray), .int .i64 0, .int .i64 0, .string (⟨#[]⟩ : ByteArray), (.slice none 0 0), (.slice none 0 0)] 25 (0, 0))) ∧ Aside0 (Below w.heap.size w w'))
 case atStart => exact ⟨(0), (([] : List (S25))), (.slice none 0 0), ya, H', ⟨Nat.le_refl _⟩, ⟨by (with_reducible repeat (first | apply Kd.R_alloc | apply Kd.R_drewN | apply Kd.R_drew)); exact Kd.R_mono (zgR (Kd.R_types HO175.out BK171.out (by decide))) (fun _ hk => trivial)⟩, ⟨by first | exact Kd.R_nil _ _ _ _ _ | exact Kd.N_nil _ _ _ _ _ | exact Kd.V_nil _ _ _ _ _ | exact Kd.Q_nil _ _ _ _ _ | exact Kd.S_nil _ _ _ _ _⟩, ⟨by (with_reducible repeat (first | refine blk_drewN ?_ _ | refine blk_drew ?_ | refine blk_alloc ?_ _)); refine blk_put (cs := #[.int .i64 a0_0, .string a0_1, .int .i64 a0_2, .int .i64 a0_3, .string a0_4, .slice Ao8 t173.length co8, .slice A0_6 l0_6.length c0_6]) ?_ 6 _ rfl; refine blk_put (cs := #[.int .i64 a0_0, .string a0_1, .int .i64 a0_2, .int .i64 a0_3, .string a0_4, .slice A0_5 l0_5.length c0_5, .slice A0_6 l0_6.length c0_6]) ?_ 5 _ rfl; (with_reducible repeat (first | refine blk_drewN ?_ _ | refine blk_drew ?_ | refine blk_alloc ?_ _)); exact BK171.out⟩, ⟨by (with_reducible repeat (first | refine blk_drewN ?_ _ | refine blk_drew ?_ | refine blk_alloc ?_ _)); refine blk_far ?_ NB172_171.out _; refine blk_far ?_ NB172_171.out _; (with_reducible repeat (first | refine blk_drewN ?_ _ | refine blk_drew ?_ | refine blk_alloc ?_ _)); exact BK172.out⟩, ⟨mZ⟩⟩
 case round =>
  clear H'
  try clear hcz6_0
  try clear hcz6_1
  try clear hcz6_2
  try clear hcz6_3
  try clear hcz6_4
  try clear hcz6_5
  try clear hcz6_6
  try clear hcz9_0
  try clear hcz9_1
  try clear hcz9_2
  try clear hcz9_3
  try clear hcz9_4
  try clear hcz9_5
  try clear hcz9_6
  try clear hfz6_0
  try clear hfz6_1
  try clear hfz6_2
  try clear hfz6_3
  try clear hfz6_4
  try clear hfz6_5
  try clear hfz6_6
  try clear hfz9_0
  try clear hfz9_1
  try clear hfz9_2
  try clear hfz9_3
  try clear hfz9_4
  try clear hfz9_5
  try clear hfz9_6
  try clear BK171
  try clear BK172
  obtain ⟨x15_1, x172006_1, u172006, rfl, HA, HK1, HO_172005, HO_172006, BK171, BK172, HB⟩ := hrel
  cases gk with
  | zero => exact absurd HA.out (by simp [pred_Copy.l0])
  | succ k1 =>
   have H := HA.out
   clear HA
   simp only [pred_Copy.l0] at H
   by_cases c10 : x15_1 < (l0_6.length : Int)
   ·rw [if_pos c10] at H
    have c10b0 : decide (x15_1 < (l0_6.length : Int)) = true := decide_eq_true c10
    clear c10
    by_cases c11 : 0 ≤ x15_1
    ·rw [if_pos c11] at H
     have c11b0 : decide (0 ≤ x15_1) = true := decide_eq_true c11
     clear c11
     by_cases c12 : x15_1 < (l0_6.length : Int)
     ·rw [if_pos c12] at H
      have c12b0 : decide (x15_1 < (l0_6.length : Int)) = true := decide_eq_true c12
      clear c12
      replace H := Option.bind_eq_some_iff.mp H
      obtain ⟨⟨t178, t179, t180, t181, t182, t183, t186⟩, A130, H⟩ := H
      try dsimp only at H
      have A13 := zM A130
      clear A130
      by_cases c14 : x172006_1.length < 1353245080339
      ·rw [if_pos c14] at H
       have LMc14 := zM c14
       clear c14
       obtain ⟨y189, hy189⟩ : ∃ y_ : List (S25), y_ = (x172006_1 ++ [(⟨t178, t179, t180, t181, t182, t183, t186⟩ : S25)]) := ⟨_, rfl⟩
       replace H : (pred_Copy.l0 k1 l0_6 (l0_6.length : Int) (wrap64 (x15_1 + 1)) a0_0 a0_1 a0_2 a0_3 a0_4 t173 y189) = some (r1, r2, r3, r4, r5, r6, r7) := by first | (rw [hy189]; with_reducible exact H) | (have H2_ := (Option.bind_some _ _).symm.trans H; rw [hy189]; with_reducible exact H2_) | (have H2_ := (Option.bind_some _ _).symm.trans H; with_reducible exact H2_) | with_reducible exact H | (rw [hy189]; exact H) | exact H
       have Ny189 := zM hy189
       clear hy189
       have H' := Aside0.mk H
       clear H
       have p176 : 0 ≤ (x15_1 : Int) := zA
       have q176 : x15_1 < (l0_6.length : Int) := zA
       obtain ⟨ad176, A176_5, c176_5, A176_6, c176_6, e176, hx176_0, hx176_1, hx176_2, hx176_3, hx176_4, hx176_5, hx176_6, hl176_5, hi176_5, hl176_6, hi176_6⟩ := at_T25 HR0_6.out x15_1 p176 q176
       cases e176
       replace hx176_0 := zH HB hx176_0
       replace hx176_1 := zH HB hx176_1
       replace hx176_2 := zH HB hx176_2
       replace hx176_3 := zH HB hx176_3
       replace hx176_4 := zH HB hx176_4
       replace hx176_5 := zH HB hx176_5
       replace hx176_6 := zH HB hx176_6
       have HR176_5 := zM hi176_5
       have HC176_5 := zM hl176_5
       clear hi176_5 hl176_5
       have HR176_6 := zM hi176_6
       have HC176_6 := zM hl176_6
       clear hi176_6 hl176_6
       replace p176 := eq_true p176
       replace q176 := eq_true q176
       try go_wp2_with (first | ((with_reducible refine gate_dst (N := 5) rfl ?_); refine box_event ?hg (N := 5) ?hd (cs := #[.int .i64 0, .string (⟨#[]⟩ : ByteArray), .int .i64 0, .int .i64 0, .string (⟨#[]⟩ : ByteArray), .slice none 0 0, .slice none 0 0]) (t := 25) ?hr ?_; (case hd => rfl); (case hg => rfl); (case hr => first | (go_simp; done) | (go_simp; rfl)); intro gb177 hg w15 hbox hb; replace HO_172005 := zR HO_172005 hb; replace HO_172006 := zM (Kd.R_below (Kd.R_elderB (mR HO_172006.out) gb177 (Nat.le_of_eq hg.symm)) hb); have BK177 := zM (hbox); have GW177 := zM ((by rw [hg]; exact (below_size mZ) : w.heap.size ≤ gb177)); replace HB := zM (below_step mZ hb); have GE177 := GW177; have NB171_177 := zL BK171 hg; have NB177_171 := zG BK171 hg; replace BK171 := zK BK171 hb; have NB172_177 := zL BK172 hg; have NB177_172 := zG BK172 hg; replace BK172 := zK BK172 hb; clear hb hbox hg; have hnb16 := NB177_171.out; have hnc16 := NB171_177.out; have hnb17 := NB177_172.out; have hnc17 := NB172_177.out; obtain ⟨hcz18_0, hcz18_1, hcz18_2, hcz18_3, hcz18_4, hcz18_5, hcz18_6, hfz18_0, hfz18_1, hfz18_2, hfz18_3, hfz18_4, hfz18_5, hfz18_6⟩ := cells_7 BK177.out))
       generalize hq_ : (((((((w15.setCell ⟨gb177, 0, none⟩ (.int .i64 ((rd_T25 l0_6 x15_1).f0))).setCell ⟨gb177, 1, none⟩ (.string ((rd_T25 l0_6 x15_1).f1))).setCell ⟨gb177, 2, none⟩ (.int .i64 ((rd_T25 l0_6 x15_1).f2))).setCell ⟨gb177, 3, none⟩ (.int .i64 ((rd_T25 l0_6 x15_1).f3))).setCell ⟨gb177, 4, none⟩ (.string ((rd_T25 l0_6 x15_1).f4))).setCell ⟨gb177, 5, none⟩ (.slice A176_5 ((rd_T25 l0_6 x15_1).f5).length c176_5)).setCell ⟨gb177, 6, none⟩ (.slice A176_6 ((rd_T25 l0_6 x15_1).f6).length c176_6)) = w19
       replace HO_172005 : Aside0 (Kd.R Kd.string 9 w19 w.heap.size (fun _ => True) (.slice Ao8 t173.length co8) t173) := ⟨by subst hq_; (with_reducible repeat (first | apply Kd.R_alloc | apply Kd.R_drewN | apply Kd.R_drew)); exact Kd.R_mono (zgR (Kd.R_types HO_172005.out BK177.out (by decide))) (fun _ hk => trivial)⟩
       replace HO_172006 := zqR7 (ok' := fun k_ => nb k_ Ao8 t173.length co8 ∧ k_ ≠ gb171 ∧ k_ ≠ gb172 ∧ k_ ≠ gb177) hq_ HO_172006 (fun _ hk => hk.2) (fun _ hk => ⟨hk.1.1.1, ⟨hk.1.1.2.1, ⟨hk.1.1.2.2, hk.1.2⟩⟩⟩)
       replace BK171 := zf7 hq_ BK171 NB171_177
       replace BK172 := zf7 hq_ BK172 NB172_177
       replace BK177 := zp7 hq_ BK177
       replace HB : Aside0 (Below w.heap.size w w19) := ⟨by subst hq_; exact mZ⟩
       clear hq_
       replace HO_172005 := zM (Kd.R_drew HO_172005.out)
       replace HO_172006 := zM (Kd.R_drew HO_172006.out)
       replace BK171 := zM (blk_drew BK171.out)
       replace BK172 := zM (blk_drew BK172.out)
       replace BK177 := zM (blk_drew BK177.out)
       replace HB := zM (below_drew1 HB.out)
       refine start_ (n := 8) (S := fun w' => w'.cell? ⟨gb171, 0, none⟩ = some (.int .i64 a0_0) ∧ w'.cell? ⟨gb171, 1, none⟩ = some (.string a0_1) ∧ w'.cell? ⟨gb171, 2, none⟩ = some (.int .i64 a0_2) ∧ w'.cell? ⟨gb171, 3, none⟩ = some (.int .i64 a0_3) ∧ w'.cell? ⟨gb171, 4, none⟩ = some (.string a0_4) ∧ w'.cell? ⟨gb171, 5, none⟩ = some (.slice Ao8 t173.length co8) ∧ w'.cell? ⟨gb171, 6, none⟩ = some (u172006) ∧ w'.cell? ⟨gb177, 0, none⟩ = some (.int .i64 ((rd_T25 l0_6 x15_1).f0)) ∧ w'.cell? ⟨gb177, 1, none⟩ = some (.string ((rd_T25 l0_6 x15_1).f1)) ∧ w'.cell? ⟨gb177, 2, none⟩ = some (.int .i64 ((rd_T25 l0_6 x15_1).f2)) ∧ w'.cell? ⟨gb177, 3, none⟩ = some (.int .i64 ((rd_T25 l0_6 x15_1).f3)) ∧ w'.cell? ⟨gb177, 4, none⟩ = some (.string ((rd_T25 l0_6 x15_1).f4)) ∧ w'.cell? ⟨gb177, 5, none⟩ = some (.slice A176_5 ((rd_T25 l0_6 x15_1).f5).length c176_5) ∧ w'.cell? ⟨gb177, 6, none⟩ = some (.slice A176_6 ((rd_T25 l0_6 x15_1).f6).length c176_6)) (ds := [7]) #[false, false, false, false, false, false, false, false] (by kernel_rfl) rfl rfl (zI7 BK171 (zJ7 BK177)) (fun hHeld => ?_); refine with_tabW pred_Copy.tab7 pred_Copy.bits7 (fun HT_ HW_ => ?_)
       generalize w19.drew = w20 at HO_172005 HO_172006 BK171 BK172 BK177 HB hHeld ⊢
       refine pure_ (i := 0) (N := some 19) (v := ?_) (a' := ?_) #[true, false, false, false, false, false, false, false] rfl rfl (any_of HT_.out (by kernel_rfl)) (fun _ _ _ h => h) (Or.inl ⟨by rfl, ?_⟩) ?_ ?_
       rotate_left
       ·intro w'
        go_simp
        with_reducible rfl
       rotate_left
       ·simp only [Act.put, List.setIfInBounds_toArray, List.set_cons_zero, List.set_cons_succ, i64_w, i32_w]
        rfl
       refine take_ (i := 1) (N := some 20) (v := ?_) (a' := ?_) #[true, true, false, false, false, false, false, false] rfl rfl (take_ofW HT_.out HW_.out (by kernel_rfl)) (fun _ _ _ h => h) (Or.inl ⟨by rfl, ?_⟩) hHeld ?_ ?_
       rotate_left
       ·rintro w' ⟨s0, s1, s2, s3, s4, s5, s6, s7, s8, s9, s10, s11, s12, s13⟩
        go_simp
        with_reducible rfl
       rotate_left
       ·simp only [Act.put, List.setIfInBounds_toArray, List.set_cons_zero, List.set_cons_succ, i64_w, i32_w]
        rfl
       refine take_ (i := 2) (N := some 21) (v := ?_) (a' := ?_) #[true, true, true, false, false, false, false, false] rfl rfl (take_ofW HT_.out HW_.out (by kernel_rfl)) (fun _ _ _ h => h) (Or.inl ⟨by rfl, ?_⟩) hHeld ?_ ?_
       rotate_left
       ·rintro w' ⟨s0, s1, s2, s3, s4, s5, s6, s7, s8, s9, s10, s11, s12, s13⟩
        go_simp
        with_reducible rfl
       rotate_left
       ·simp only [Act.put, List.setIfInBounds_toArray, List.set_cons_zero, List.set_cons_succ, i64_w, i32_w]
        rfl
       refine one_ (i := 3) (N := some 22) #[true, true, true, true, false, false, false, false] rfl rfl (one_of HT_.out (by kernel_rfl)) (by decide) (fun K hK => ?_)
       refine goes_ Try.func27 (by kernel_rfl) rfl #[.agg #[.int .i64 ((rd_T25 l0_6 x15_1).f0), .string ((rd_T25 l0_6 x15_1).f1), .int .i64 ((rd_T25 l0_6 x15_1).f2), .int .i64 ((rd_T25 l0_6 x15_1).f3), .string ((rd_T25 l0_6 x15_1).f4), .slice A176_5 ((rd_T25 l0_6 x15_1).f5).length c176_5, .slice A176_6 ((rd_T25 l0_6 x15_1).f6).length c176_6]] (by rfl) rfl rfl yb ?_
       with_reducible refine (ih k1 (by have := HK1.out; omega) ((rd_T25 l0_6 x15_1).f0) ((rd_T25 l0_6 x15_1).f1) ((rd_T25 l0_6 x15_1).f2) ((rd_T25 l0_6 x15_1).f3) ((rd_T25 l0_6 x15_1).f4) _ _ ((rd_T25 l0_6 x15_1).f5) _ _ ((rd_T25 l0_6 x15_1).f6) t178 t179 t180 t181 t182 t183 t186 _ ?side1 ?side2 ?side3 ?side4 A13.out).mono ?_
       (case side1 => exact zC (Kd.C_below HR176_5.out HB.out))
       (case side2 => first | exact HC176_5.out | exact Kd.V_mono HC176_5.out (fun k_ hk_ => by grind))
       (case side3 => exact zC (Kd.C_below HR176_6.out HB.out))
       (case side4 => first | exact HC176_6.out | exact Kd.V_mono HC176_6.out (fun k_ hk_ => by grind))
       rintro e w21 ⟨v184, v187, rfl, ho0, ho1, hb⟩
       refine ⟨_, rfl, ?_⟩
       have HO185 := zM (Kd.R_lower (Kd.R_new' ho0 (Kd.R_lt (mR HO_172005.out))) (below_size mZ))
       have HO188 := zM (Kd.R_lower (Kd.R_newB (Kd.R_newB (Kd.R_newB (Kd.R_new' (Kd.R_new' ho1 (Kd.R_lt (mR HO_172005.out))) (Kd.R_lt (mR HO_172006.out))) (mK BK171.out)) (mK BK172.out)) (mK BK177.out)) (below_size mZ))
       replace HO_172005 := zM (Kd.R_elder' (mR HO_172005.out) (Kd.R_base ho0) hb)
       replace HO_172006 := zM (Kd.R_mono (Kd.R_told (Kd.R_told (Kd.R_old (mR HO_172006.out) hb) (Kd.R_base ho0)) (Kd.R_base ho1)) (fun _ h_ => h_.1))
       replace BK171 := zK BK171 hb
       replace BK172 := zK BK172 hb
       replace BK177 := zK BK177 hb
       replace HB := zM (below_step mZ hb)
       (try clear hb)
       (try clear hb2)
       (try clear hk)
       (try clear hi)
       (try clear ho0)
       (try clear ho1)
       obtain ⟨Ao23, co23, eo23⟩ := Kd.R_slice HO185.out
       (first | subst eo23 | (injection eo23 with f1_ f2_ f3_; have f4_ := f1_.symm; have f5_ := f3_.symm; clear f1_ f2_ f3_; subst f4_; subst f5_))
       obtain ⟨Ao24, co24, eo24⟩ := Kd.R_slice HO188.out
       (first | subst eo24 | (injection eo24 with f1_ f2_ f3_; have f4_ := f1_.symm; have f5_ := f3_.symm; clear f1_ f2_ f3_; subst f4_; subst f5_))
       refine hK.out _ _ (zI7 BK171 (zJ7 BK177)) (fun hHeld => ?_)
       clear hK K
       refine norm_ (a' := ?_) ?_ ?_
       rotate_left
       ·show Act.put _ (some 22) _ = _
        simp only [Act.put, List.setIfInBounds_toArray, List.set_cons_zero, List.set_cons_succ, i64_w, i32_w]
        rfl
       refine one_ (i := 4) (N := some 23) #[true, true, true, true, true, false, false, false] rfl rfl (one_of HT_.out (by kernel_rfl)) (by decide) (fun K hK => ?_)
       refine value_ (w1 := ?_) (v := ?_) (by rfl) rfl ?_ ?_
       rotate_left 2
       ·go_simp
        constructor
        ·rfl
        rfl
       refine hK.out _ _ ⟨(blk_cell (blk_alloc BK171.out _) 0).trans rfl, (blk_cell (blk_alloc BK171.out _) 1).trans rfl, (blk_cell (blk_alloc BK171.out _) 2).trans rfl, (blk_cell (blk_alloc BK171.out _) 3).trans rfl, (blk_cell (blk_alloc BK171.out _) 4).trans rfl, (blk_cell (blk_alloc BK171.out _) 5).trans rfl, (blk_cell (blk_alloc BK171.out _) 6).trans rfl, (blk_cell (blk_alloc BK177.out _) 0).trans rfl, (blk_cell (blk_alloc BK177.out _) 1).trans rfl, (blk_cell (blk_alloc BK177.out _) 2).trans rfl, (blk_cell (blk_alloc BK177.out _) 3).trans rfl, (blk_cell (blk_alloc BK177.out _) 4).trans rfl, (blk_cell (blk_alloc BK177.out _) 5).trans rfl, (blk_cell (blk_alloc BK177.out _) 6).trans rfl⟩ (fun hHeld => ?_)
       clear hK K
       refine norm_ (a' := ?_) ?_ ?_
       rotate_left
       ·show Act.put _ (some 23) _ = _
        simp only [Act.put, List.setIfInBounds_toArray, List.set_cons_zero, List.set_cons_succ, i64_w, i32_w]
        rfl
       refine one_ (i := 5) (N := some 24) #[true, true, true, true, true, true, false, false] rfl rfl (one_of HT_.out (by kernel_rfl)) (by decide) (fun K hK => ?_)
       refine Kd.R_append_step k25 (w0 := w) w.heap.size (by rfl) (.tmp 20) (.tmp 23) 23 25 (.agg #[(.int .i64 0), (.string ⟨#[]⟩), (.int .i64 0), (.int .i64 0), (.string ⟨#[]⟩), (.slice none 0 0), (.slice none 0 0)]) 104 rfl Try.underlying23 info25 rfl (by decide) (by omega) u172006 x172006_1 (⟨t178, t179, t180, t181, t182, t183, t186⟩ : S25) [.int .i64 t178, .string t179, .int .i64 t180, .int .i64 t181, .string t182, .slice Ao23 t183.length co23, .slice Ao24 t186.length co24] (fun k_ => nb k_ Ao8 t173.length co8 ∧ k_ ≠ gb171 ∧ k_ ≠ gb172 ∧ k_ ≠ gb177) (fun k_ => ((fun k_ => nb k_ Ao8 t173.length co8 ∧ k_ ≠ gb171 ∧ k_ ≠ gb172 ∧ k_ ≠ gb177)) k_ ∧ some k_ ≠ (u172006 : Value).ownBlock) rfl rfl ?aP (fun _ hk => hk) ?aF ?aO ?aB ?aS ?aL ?_
       (case aP => exact k25_mkM _ _ _ (⟨t178, t179, t180, t181, t182, t183, t186⟩ : S25) (Kd.R_mono (Kd.R_types (Kd.R_types (Kd.R_types (Kd.R_apart' (HO185.out) (Kd.R_typed HO_172006.out) (by decide)) BK171.out (by decide)) BK172.out (by decide)) BK177.out (by decide)) (fun k_ hk => ⟨⟨hk.1.1.1.1.2, ⟨hk.1.1.2, ⟨hk.1.2, hk.2⟩⟩⟩, hk.1.1.1.2⟩)) (Kd.R_mono (HO188.out) (fun k_ hk => ⟨⟨hk.1.1.1.1.2, ⟨hk.1.1.2, ⟨hk.1.2, hk.2⟩⟩⟩, hk.1.1.1.2⟩)))
       (case aB => exact mZ)
       (case aF => exact (fun k_ hk => ⟨fR HO_172005 hk, fK BK171 hk, fK BK172 hk, fK BK177 hk⟩))
       (case aO => exact (yR HO_172006 (fun _ hk => ⟨hk.1.1.1, ⟨hk.1.1.2.1, ⟨hk.1.1.2.2.1, hk.1.1.2.2.2⟩⟩⟩)))
       (case aS => exact (below_size mZ))
       (case aL => have := LMc14.out; omega)
       intro v190 w22 ho hb hg hat
       rw [← Ny189.out] at ho
       replace HO_172005 := zM (Kd.R_over' (mR HO_172005.out) (Kd.R_typed (mR HO_172006.out)) (by decide) hg)
       replace BK171 := zM (blk_grown (mK BK171.out) hg (Kd.R_away HO_172006.out (fun _ hk => hk.1.1.2.1)))
       replace BK172 := zM (blk_grown (mK BK172.out) hg (Kd.R_away HO_172006.out (fun _ hk => hk.1.1.2.2.1)))
       replace BK177 := zM (blk_grown (mK BK177.out) hg (Kd.R_away HO_172006.out (fun _ hk => hk.1.1.2.2.2)))
       replace HB := zM (hb)
       have HO191 := zM (ho)
       clear HO_172006 HO185 HO188
       clear ho hb hg hat
       obtain ⟨Ao25, co25, eo25⟩ := Kd.R_slice HO191.out
       (first | subst eo25 | (injection eo25 with f1_ f2_ f3_; have f4_ := f1_.symm; have f5_ := f3_.symm; clear f1_ f2_ f3_; subst f4_; subst f5_))
       refine hK.out _ _ (zI7 BK171 (zJ7 BK177)) (fun hHeld => ?_)
       clear hK K
       refine norm_ (a' := ?_) ?_ ?_
       rotate_left
       ·show Act.put _ (some 24) _ = _
        simp only [Act.put, List.setIfInBounds_toArray, List.set_cons_zero, List.set_cons_succ, i64_w, i32_w]
        rfl
       refine pure_ (i := 6) (N := some 25) (v := ?_) (a' := ?_) #[true, true, true, true, true, true, true, false] rfl rfl (any_of HT_.out (by kernel_rfl)) (fun _ _ _ h => h) (Or.inl ⟨by rfl, ?_⟩) ?_ ?_
       rotate_left
       ·intro w'
        go_simp
        with_reducible rfl
       rotate_left
       ·simp only [Act.put, List.setIfInBounds_toArray, List.set_cons_zero, List.set_cons_succ, i64_w, i32_w]
        rfl
       refine last_ (i := 7) (N := none) #[true, true, true, true, true, true, true, true] rfl rfl (one_of HT_.out (by kernel_rfl)) (by decide) (fun K hK => ?_)
       have hs26 : w22.cell? ⟨gb171, 6, none⟩ = some (u172006) := (blk_cell BK171.out 6).trans rfl
       have hfs26 := blk_frozen BK171.out 6
       have hns26_1 := NB172_171.out
       have hns26_2 := NB177_171.out
       have hms26_1 := NB171_172.out
       have hms26_2 := NB171_177.out
       refine skip_ (w1 := ?_) (by rfl) rfl ?_ ?_
       rotate_left
       ·go_simp
        rfl
       refine hK.out _ _ ?_
       clear hK K
       refine done_ (done_of HT_.out (by kernel_rfl)) ?_
       try go_wp2
       go_roundg k1
       case measure => have := HK1.out; omega
       case rel => exact ⟨(wrap64 (x15_1 + 1)), (y189), (.slice Ao25 y189.length co25), ya, H', ⟨by have := HK1.out; omega⟩, ⟨by (with_reducible repeat (first | apply Kd.R_alloc | apply Kd.R_drewN | apply Kd.R_drew)); exact Kd.R_mono (zgR (Kd.R_types HO_172005.out BK171.out (by decide))) (fun _ hk => trivial)⟩, ⟨by (with_reducible repeat (first | apply Kd.R_alloc | apply Kd.R_drewN | apply Kd.R_drew)); exact Kd.R_mono (zgR (Kd.R_mono HO191.out (fun k_ hk => (⟨hk, hk.2.1⟩ : _ ∧ k_ ≠ gb171)))) (fun _ hk => ⟨hk.1.1, ⟨hk.1.2.1, hk.1.2.2.1⟩⟩)⟩, ⟨by (with_reducible repeat (first | refine blk_drewN ?_ _ | refine blk_drew ?_ | refine blk_alloc ?_ _)); refine blk_put (cs := #[.int .i64 a0_0, .string a0_1, .int .i64 a0_2, .int .i64 a0_3, .string a0_4, .slice Ao8 t173.length co8, u172006]) ?_ 6 _ rfl; (with_reducible repeat (first | refine blk_drewN ?_ _ | refine blk_drew ?_ | refine blk_alloc ?_ _)); exact BK171.out⟩, ⟨by (with_reducible repeat (first | refine blk_drewN ?_ _ | refine blk_drew ?_ | refine blk_alloc ?_ _)); refine blk_far ?_ NB172_171.out _; (with_reducible repeat (first | refine blk_drewN ?_ _ | refine blk_drew ?_ | refine blk_alloc ?_ _)); exact BK172.out⟩, ⟨mZ⟩⟩
      rw [if_neg c14] at H
      exact absurd H (by simp)
     rw [if_neg c12] at H
     exact absurd H (by simp)
    rw [if_neg c11] at H
    exact absurd H (by simp)
   rw [if_neg c10] at H
   have c10b0 : decide (x15_1 < (l0_6.length : Int)) = false := decide_eq_false c10
   clear c10
   simp only [Option.some.injEq, Prod.mk.injEq] at H
   obtain ⟨rfl, rfl, rfl, rfl, rfl, rfl, rfl⟩ := H
   have hnb27 := NB171_172.out
   have hnc27 := NB172_171.out
   obtain ⟨hcz28_0, hcz28_1, hcz28_2, hcz28_3, hcz28_4, hcz28_5, hcz28_6, hfz28_0, hfz28_1, hfz28_2, hfz28_3, hfz28_4, hfz28_5, hfz28_6⟩ := cells_7 BK171.out
   obtain ⟨hcz29_0, hcz29_1, hcz29_2, hcz29_3, hcz29_4, hcz29_5, hcz29_6, hfz29_0, hfz29_1, hfz29_2, hfz29_3, hfz29_4, hfz29_5, hfz29_6⟩ := cells_7 BK172.out
   obtain ⟨Ao30, co30, eo30⟩ := Kd.R_slice HO_172006.out
   subst eo30
   go_wp2
   refine bodyPost_ret (results_cell_row rfl _ _ gb172 25 #[.int .i64 a0_0, .string a0_1, .int .i64 a0_2, .int .i64 a0_3, .string a0_4, .slice Ao8 t173.length co8, .slice Ao30 x172006_1.length co30] (0, 0) _ rfl (by (with_reducible repeat (first | refine blk_drewN ?_ _ | refine blk_drew ?_ | refine blk_alloc ?_ _)); apply puts_7; (with_reducible repeat (first | refine blk_drewN ?_ _ | refine blk_drew ?_ | refine blk_alloc ?_ _)); exact BK172.out) Try.underlying25 rfl (by kernel_rfl)) rfl ?_
   exact ⟨_, _, by first | rfl | (simp [errW_none, errW_some] <;> rfl) | (simp [*, errW_none, errW_some] <;> rfl), by (with_reducible repeat (first | apply Kd.R_alloc | apply Kd.R_drewN | apply Kd.R_drew)); exact Kd.R_mono (zgR (Kd.R_types HO_172005.out BK172.out (by decide))) (fun _ hk => trivial), by (with_reducible repeat (first | apply Kd.R_alloc | apply Kd.R_drewN | apply Kd.R_drew)); exact Kd.R_mono (zgR (Kd.R_mono HO_172006.out (fun k_ hk => (⟨hk, hk.2.2⟩ : _ ∧ k_ ≠ gb172)))) (fun _ hk => hk.1.1), mZ⟩

end Go.Proofs.Ytalpcnomfebdiaa.QPredRules
