-- Written by a program of this session (wip/myprint.py): the machine's side of a law
import Derived.Test.YtalpcnomfebdiaaQPredRulesx0
namespace Go.Proofs.Ytalpcnomfebdiaa.QPredRules
open Go.RowKit Go.Proofs.YtalpcnomfebdiaaW.PrintWords Go.Proofs.YtalpcnomfebdiaaW.PrintLast Go.Proofs.YtalpcnomfebdiaaW.PrintMore
attribute [local go_sem] max2_int min2_int max_two min_two max_three min_three max_four min_four   -- for this text's walks alone
set_option linter.unusedVariables false
set_option linter.unusedSimpArgs false

/-! ### columbariumkeep_Cut: function 7 -/
mutual
def columbariumkeep_Cut.j0 : Nat → Int → Int → ByteArray → Int → Int → ByteArray → List ByteArray → List (S25) → Option (Int × ByteArray × Int × Int × ByteArray × List ByteArray × (List (S25)))
 | 0, _, _, _, _, _, _, _, _ => none
 | k + 1, x1, x102000, x102001, x102002, x102003, x102004, x102005, x102006 => if (x102004.size : Int) > 41 then (if 0 ≤ 41 then (if 41 ≤ (x102004.size : Int) then (columbariumkeep_Cut.j1 k x1 x102000 x102001 x102002 x102003 (x102004.extract 0 41) x102005 x102006) else (none)) else (none)) else (columbariumkeep_Cut.j1 k x1 x102000 x102001 x102002 x102003 x102004 x102005 x102006)
def columbariumkeep_Cut.j1 : Nat → Int → Int → ByteArray → Int → Int → ByteArray → List ByteArray → List (S25) → Option (Int × ByteArray × Int × Int × ByteArray × List ByteArray × (List (S25)))
 | 0, _, _, _, _, _, _, _, _ => none
 | k + 1, x1, x102000, x102001, x102002, x102003, x102004, x102005, x102006 => columbariumkeep_Cut.l0 k x1 ([] : List ByteArray) 0 x102000 x102001 x102002 x102003 x102004 x102005 x102006
def columbariumkeep_Cut.l0 : Nat → Int → List ByteArray → Int → Int → ByteArray → Int → Int → ByteArray → List ByteArray → List (S25) → Option (Int × ByteArray × Int × Int × ByteArray × List ByteArray × (List (S25)))
 | 0, _, _, _, _, _, _, _, _, _, _ => none
 | k + 1, x1, x5, x6, x102000, x102001, x102002, x102003, x102004, x102005, x102006 => if x6 < (x102005.length : Int) then (columbariumkeep_Cut.j3 k x1 x5 x6 (decide (x6 < 9)) x102000 x102001 x102002 x102003 x102004 x102005 x102006) else (columbariumkeep_Cut.j3 k x1 x5 x6 false x102000 x102001 x102002 x102003 x102004 x102005 x102006)
def columbariumkeep_Cut.j3 : Nat → Int → List ByteArray → Int → Bool → Int → ByteArray → Int → Int → ByteArray → List ByteArray → List (S25) → Option (Int × ByteArray × Int × Int × ByteArray × List ByteArray × (List (S25)))
 | 0, _, _, _, _, _, _, _, _, _, _, _ => none
 | k + 1, x1, x5, x6, x34, x102000, x102001, x102002, x102003, x102004, x102005, x102006 => if x34 = true then (if 0 ≤ x6 then (if x6 < (x102005.length : Int) then (if ((rdOf ByteArray.empty x102005 x6).size : Int) > 41 then (if 0 ≤ 41 then (if 41 ≤ ((rdOf ByteArray.empty x102005 x6).size : Int) then (if x5.length < 8796093022208 then (columbariumkeep_Cut.l0 k x1 (x5 ++ [(rdOf ByteArray.empty x102005 x6).extract 0 41]) (wrap64 (x6 + 1)) x102000 x102001 x102002 x102003 x102004 x102005 x102006) else (none)) else (none)) else (none)) else (if x5.length < 8796093022208 then (columbariumkeep_Cut.l0 k x1 (x5 ++ [rdOf ByteArray.empty x102005 x6]) (wrap64 (x6 + 1)) x102000 x102001 x102002 x102003 x102004 x102005 x102006) else (none))) else (none)) else (none)) else (columbariumkeep_Cut.l1 k x1 ([] : List (S25)) 0 x102000 x102001 x102002 x102003 x102004 x5 x102006)
def columbariumkeep_Cut.l1 : Nat → Int → List (S25) → Int → Int → ByteArray → Int → Int → ByteArray → List ByteArray → List (S25) → Option (Int × ByteArray × Int × Int × ByteArray × List ByteArray × (List (S25)))
 | 0, _, _, _, _, _, _, _, _, _, _ => none
 | k + 1, x1, x8, x9, x102000, x102001, x102002, x102003, x102004, x102005, x102006 => if x9 < (x102006.length : Int) then (if x9 < 4 then (if x1 > 0 then (if 0 ≤ x9 then ((columbariumkeep_Cut.f k ((rd_T25 x102006 x9).f0) ((rd_T25 x102006 x9).f1) ((rd_T25 x102006 x9).f2) ((rd_T25 x102006 x9).f3) ((rd_T25 x102006 x9).f4) ((rd_T25 x102006 x9).f5) ((rd_T25 x102006 x9).f6) (wrap64 (x1 - 1))).bind fun bt111 => (if x8.length < 1353245080339 then (columbariumkeep_Cut.l1 k x1 (x8 ++ [(⟨bt111.1, bt111.2.1, bt111.2.2.1, bt111.2.2.2.1, bt111.2.2.2.2.1, bt111.2.2.2.2.2.1, bt111.2.2.2.2.2.2⟩ : S25)]) (wrap64 (x9 + 1)) x102000 x102001 x102002 x102003 x102004 x102005 x102006) else (none))) else (none)) else (some (x102000, x102001, x102002, x102003, x102004, x102005, x8))) else (some (x102000, x102001, x102002, x102003, x102004, x102005, x8))) else (some (x102000, x102001, x102002, x102003, x102004, x102005, x8))
def columbariumkeep_Cut.f : Nat → Int → ByteArray → Int → Int → ByteArray → List ByteArray → List (S25) → Int → Option (Int × ByteArray × Int × Int × ByteArray × List ByteArray × (List (S25)))
 | 0, _, _, _, _, _, _, _, _ => none
 | k + 1, a0_0, a0_1, a0_2, a0_3, a0_4, l0_5, l0_6, a1 => if (a0_1.size : Int) > 20 then (if 0 ≤ 20 then (if 20 ≤ (a0_1.size : Int) then (columbariumkeep_Cut.j0 k a1 a0_0 (a0_1.extract 0 20) a0_2 a0_3 a0_4 l0_5 l0_6) else (none)) else (none)) else (columbariumkeep_Cut.j0 k a1 a0_0 a0_1 a0_2 a0_3 a0_4 l0_5 l0_6)
end
theorem columbariumkeep_Cut.mono_l : ∀ k, (∀ y0 y1 y2 y3 y4 y5 y6 y7, LeO (columbariumkeep_Cut.f k y0 y1 y2 y3 y4 y5 y6 y7) (columbariumkeep_Cut.f (k + 1) y0 y1 y2 y3 y4 y5 y6 y7)) ∧ (∀ y0 y1 y2 y3 y4 y5 y6 y7, LeO (columbariumkeep_Cut.j0 k y0 y1 y2 y3 y4 y5 y6 y7) (columbariumkeep_Cut.j0 (k + 1) y0 y1 y2 y3 y4 y5 y6 y7)) ∧ (∀ y0 y1 y2 y3 y4 y5 y6 y7, LeO (columbariumkeep_Cut.j1 k y0 y1 y2 y3 y4 y5 y6 y7) (columbariumkeep_Cut.j1 (k + 1) y0 y1 y2 y3 y4 y5 y6 y7)) ∧ (∀ y0 y1 y2 y3 y4 y5 y6 y7 y8 y9, LeO (columbariumkeep_Cut.l0 k y0 y1 y2 y3 y4 y5 y6 y7 y8 y9) (columbariumkeep_Cut.l0 (k + 1) y0 y1 y2 y3 y4 y5 y6 y7 y8 y9)) ∧ (∀ y0 y1 y2 y3 y4 y5 y6 y7 y8 y9 y10, LeO (columbariumkeep_Cut.j3 k y0 y1 y2 y3 y4 y5 y6 y7 y8 y9 y10) (columbariumkeep_Cut.j3 (k + 1) y0 y1 y2 y3 y4 y5 y6 y7 y8 y9 y10)) ∧ (∀ y0 y1 y2 y3 y4 y5 y6 y7 y8 y9, LeO (columbariumkeep_Cut.l1 k y0 y1 y2 y3 y4 y5 y6 y7 y8 y9) (columbariumkeep_Cut.l1 (k + 1) y0 y1 y2 y3 y4 y5 y6 y7 y8 y9))
 | 0 => ⟨fun _ _ _ _ _ _ _ _ r h => by simp [columbariumkeep_Cut.f] at h, fun _ _ _ _ _ _ _ _ r h => by simp [columbariumkeep_Cut.j0] at h, fun _ _ _ _ _ _ _ _ r h => by simp [columbariumkeep_Cut.j1] at h, fun _ _ _ _ _ _ _ _ _ _ r h => by simp [columbariumkeep_Cut.l0] at h, fun _ _ _ _ _ _ _ _ _ _ _ r h => by simp [columbariumkeep_Cut.j3] at h, fun _ _ _ _ _ _ _ _ _ _ r h => by simp [columbariumkeep_Cut.l1] at h⟩
 | k + 1 => by
  obtain ⟨ih0, ih1, ih2, ih3, ih4, ih5⟩ := columbariumkeep_Cut.mono_l k
  refine ⟨?_, ?_, ?_, ?_, ?_, ?_⟩
  ·intro y0 y1 y2 y3 y4 y5 y6 y7
   unfold columbariumkeep_Cut.f
   repeat' first
   | (with_reducible exact ih0 _ _ _ _ _ _ _ _)
   | (with_reducible exact ih1 _ _ _ _ _ _ _ _)
   | (with_reducible exact ih2 _ _ _ _ _ _ _ _)
   | (with_reducible exact ih3 _ _ _ _ _ _ _ _ _ _)
   | (with_reducible exact ih4 _ _ _ _ _ _ _ _ _ _ _)
   | (with_reducible exact ih5 _ _ _ _ _ _ _ _ _ _)
   | (with_reducible exact LeO.refl _)
   | (with_reducible exact LeO.none _)
   | (with_reducible refine LeO.ite ?_ ?_)
   | (with_reducible refine LeO.bind ?_ (fun _ => ?_))
   | exact ih0 _ _ _ _ _ _ _ _
   | exact ih1 _ _ _ _ _ _ _ _
   | exact ih2 _ _ _ _ _ _ _ _
   | exact ih3 _ _ _ _ _ _ _ _ _ _
   | exact ih4 _ _ _ _ _ _ _ _ _ _ _
   | exact ih5 _ _ _ _ _ _ _ _ _ _
   | exact LeO.none _
   | refine LeO.ite ?_ ?_
   | refine LeO.bind ?_ (fun _ => ?_)
  ·intro y0 y1 y2 y3 y4 y5 y6 y7
   unfold columbariumkeep_Cut.j0
   repeat' first
   | (with_reducible exact ih0 _ _ _ _ _ _ _ _)
   | (with_reducible exact ih1 _ _ _ _ _ _ _ _)
   | (with_reducible exact ih2 _ _ _ _ _ _ _ _)
   | (with_reducible exact ih3 _ _ _ _ _ _ _ _ _ _)
   | (with_reducible exact ih4 _ _ _ _ _ _ _ _ _ _ _)
   | (with_reducible exact ih5 _ _ _ _ _ _ _ _ _ _)
   | (with_reducible exact LeO.refl _)
   | (with_reducible exact LeO.none _)
   | (with_reducible refine LeO.ite ?_ ?_)
   | (with_reducible refine LeO.bind ?_ (fun _ => ?_))
   | exact ih0 _ _ _ _ _ _ _ _
   | exact ih1 _ _ _ _ _ _ _ _
   | exact ih2 _ _ _ _ _ _ _ _
   | exact ih3 _ _ _ _ _ _ _ _ _ _
   | exact ih4 _ _ _ _ _ _ _ _ _ _ _
   | exact ih5 _ _ _ _ _ _ _ _ _ _
   | exact LeO.none _
   | refine LeO.ite ?_ ?_
   | refine LeO.bind ?_ (fun _ => ?_)
  ·intro y0 y1 y2 y3 y4 y5 y6 y7
   unfold columbariumkeep_Cut.j1
   repeat' first
   | (with_reducible exact ih0 _ _ _ _ _ _ _ _)
   | (with_reducible exact ih1 _ _ _ _ _ _ _ _)
   | (with_reducible exact ih2 _ _ _ _ _ _ _ _)
   | (with_reducible exact ih3 _ _ _ _ _ _ _ _ _ _)
   | (with_reducible exact ih4 _ _ _ _ _ _ _ _ _ _ _)
   | (with_reducible exact ih5 _ _ _ _ _ _ _ _ _ _)
   | (with_reducible exact LeO.refl _)
   | (with_reducible exact LeO.none _)
   | (with_reducible refine LeO.ite ?_ ?_)
   | (with_reducible refine LeO.bind ?_ (fun _ => ?_))
   | exact ih0 _ _ _ _ _ _ _ _
   | exact ih1 _ _ _ _ _ _ _ _
   | exact ih2 _ _ _ _ _ _ _ _
   | exact ih3 _ _ _ _ _ _ _ _ _ _
   | exact ih4 _ _ _ _ _ _ _ _ _ _ _
   | exact ih5 _ _ _ _ _ _ _ _ _ _
   | exact LeO.none _
   | refine LeO.ite ?_ ?_
   | refine LeO.bind ?_ (fun _ => ?_)
  ·intro y0 y1 y2 y3 y4 y5 y6 y7 y8 y9
   unfold columbariumkeep_Cut.l0
   repeat' first
   | (with_reducible exact ih0 _ _ _ _ _ _ _ _)
   | (with_reducible exact ih1 _ _ _ _ _ _ _ _)
   | (with_reducible exact ih2 _ _ _ _ _ _ _ _)
   | (with_reducible exact ih3 _ _ _ _ _ _ _ _ _ _)
   | (with_reducible exact ih4 _ _ _ _ _ _ _ _ _ _ _)
   | (with_reducible exact ih5 _ _ _ _ _ _ _ _ _ _)
   | (with_reducible exact LeO.refl _)
   | (with_reducible exact LeO.none _)
   | (with_reducible refine LeO.ite ?_ ?_)
   | (with_reducible refine LeO.bind ?_ (fun _ => ?_))
   | exact ih0 _ _ _ _ _ _ _ _
   | exact ih1 _ _ _ _ _ _ _ _
   | exact ih2 _ _ _ _ _ _ _ _
   | exact ih3 _ _ _ _ _ _ _ _ _ _
   | exact ih4 _ _ _ _ _ _ _ _ _ _ _
   | exact ih5 _ _ _ _ _ _ _ _ _ _
   | exact LeO.none _
   | refine LeO.ite ?_ ?_
   | refine LeO.bind ?_ (fun _ => ?_)
  ·intro y0 y1 y2 y3 y4 y5 y6 y7 y8 y9 y10
   unfold columbariumkeep_Cut.j3
   repeat' first
   | (with_reducible exact ih0 _ _ _ _ _ _ _ _)
   | (with_reducible exact ih1 _ _ _ _ _ _ _ _)
   | (with_reducible exact ih2 _ _ _ _ _ _ _ _)
   | (with_reducible exact ih3 _ _ _ _ _ _ _ _ _ _)
   | (with_reducible exact ih4 _ _ _ _ _ _ _ _ _ _ _)
   | (with_reducible exact ih5 _ _ _ _ _ _ _ _ _ _)
   | (with_reducible exact LeO.refl _)
   | (with_reducible exact LeO.none _)
   | (with_reducible refine LeO.ite ?_ ?_)
   | (with_reducible refine LeO.bind ?_ (fun _ => ?_))
   | exact ih0 _ _ _ _ _ _ _ _
   | exact ih1 _ _ _ _ _ _ _ _
   | exact ih2 _ _ _ _ _ _ _ _
   | exact ih3 _ _ _ _ _ _ _ _ _ _
   | exact ih4 _ _ _ _ _ _ _ _ _ _ _
   | exact ih5 _ _ _ _ _ _ _ _ _ _
   | exact LeO.none _
   | refine LeO.ite ?_ ?_
   | refine LeO.bind ?_ (fun _ => ?_)
  intro y0 y1 y2 y3 y4 y5 y6 y7 y8 y9
  unfold columbariumkeep_Cut.l1
  repeat' first
  | (with_reducible exact ih0 _ _ _ _ _ _ _ _)
  | (with_reducible exact ih1 _ _ _ _ _ _ _ _)
  | (with_reducible exact ih2 _ _ _ _ _ _ _ _)
  | (with_reducible exact ih3 _ _ _ _ _ _ _ _ _ _)
  | (with_reducible exact ih4 _ _ _ _ _ _ _ _ _ _ _)
  | (with_reducible exact ih5 _ _ _ _ _ _ _ _ _ _)
  | (with_reducible exact LeO.refl _)
  | (with_reducible exact LeO.none _)
  | (with_reducible refine LeO.ite ?_ ?_)
  | (with_reducible refine LeO.bind ?_ (fun _ => ?_))
  | exact ih0 _ _ _ _ _ _ _ _
  | exact ih1 _ _ _ _ _ _ _ _
  | exact ih2 _ _ _ _ _ _ _ _
  | exact ih3 _ _ _ _ _ _ _ _ _ _
  | exact ih4 _ _ _ _ _ _ _ _ _ _ _
  | exact ih5 _ _ _ _ _ _ _ _ _ _
  | exact LeO.none _
  | refine LeO.ite ?_ ?_
  | refine LeO.bind ?_ (fun _ => ?_)
theorem columbariumkeep_Cut.mono : ∀ a0 a1 a2 a3 a4 a5 a6 a7 k, LeO (columbariumkeep_Cut.f k a0 a1 a2 a3 a4 a5 a6 a7) (columbariumkeep_Cut.f (k + 1) a0 a1 a2 a3 a4 a5 a6 a7) := by
 intro a0 a1 a2 a3 a4 a5 a6 a7 k
 obtain ⟨ih0, ih1, ih2, ih3, ih4, ih5⟩ := columbariumkeep_Cut.mono_l k
 exact ih0 a0 a1 a2 a3 a4 a5 a6 a7
set_option maxHeartbeats 8000000 in
set_option maxRecDepth 100000 in
theorem columbariumkeep_Cut.calls (k : Nat) : ∀ (a0_0 : Int) (a0_1 : ByteArray) (a0_2 : Int) (a0_3 : Int) (a0_4 : ByteArray) (A0_5 : Option Addr) (c0_5 : Nat) (l0_5 : List ByteArray) (A0_6 : Option Addr) (c0_6 : Nat) (l0_6 : List (S25)) (a1 : Int) (r1 : Int) (r2 : ByteArray) (r3 : Int) (r4 : Int) (r5 : ByteArray) (r6 : List ByteArray) (r7 : List (S25)) (w : World) (hr0_5 : Kd.C Kd.string w A0_5 l0_5.length l0_5) (hc0_5 : l0_5.length ≤ c0_5) (hr0_6 : Kd.C k25 w A0_6 l0_6.length l0_6) (hc0_6 : l0_6.length ≤ c0_6) (h : columbariumkeep_Cut.f k a0_0 a0_1 a0_2 a0_3 a0_4 l0_5 l0_6 a1 = some (r1, r2, r3, r4, r5, r6, r7)),
  Calls Try.prog 7 #[.agg #[.int .i64 a0_0, .string a0_1, .int .i64 a0_2, .int .i64 a0_3, .string a0_4, .slice A0_5 l0_5.length c0_5, .slice A0_6 l0_6.length c0_6], .int .i64 a1] w fun e w' => ∃ v5_ v6_ : Value, e = .returned (.agg #[.int .i64 r1, .string r2, .int .i64 r3, .int .i64 r4, .string r5, v5_, v6_]) ∧ Kd.R Kd.string 9 w' w.heap.size (fun _ => True) v5_ r6 ∧ Kd.R k25 25 w' w.heap.size (fun k_ => some k_ ≠ (v5_ : Value).ownBlock) v6_ r7 ∧ Below w.heap.size w w' := by
 induction k using Nat.strongRecOn with
 | _ k ih =>
 intro a0_0 a0_1 a0_2 a0_3 a0_4 A0_5 c0_5 l0_5 A0_6 c0_6 l0_6 a1 r1 r2 r3 r4 r5 r6 r7 w hr0_5 hc0_5 hr0_6 hc0_6 h
 cases k with
 | zero => exact absurd h (by simp [columbariumkeep_Cut.f])
 | succ k =>
 simp only [columbariumkeep_Cut.f] at h
 have hu25 := Try.underlying25
 have HR0_5 := zM hr0_5
 have HC0_5 := zM hc0_5
 clear hr0_5 hc0_5
 have HR0_6 := zM hr0_6
 have HC0_6 := zM hc0_6
 clear hr0_6 hc0_6
 have HB := zM (Below.refl w.heap.size w)
 have H : (if (a0_1.size : Int) > 20 then (if 0 ≤ 20 then (if 20 ≤ (a0_1.size : Int) then (columbariumkeep_Cut.j0 k a1 a0_0 (a0_1.extract 0 20) a0_2 a0_3 a0_4 l0_5 l0_6) else (none)) else (none)) else (columbariumkeep_Cut.j0 k a1 a0_0 a0_1 a0_2 a0_3 a0_4 l0_5 l0_6)) = some (r1, r2, r3, r4, r5, r6, r7) := h
 clear h
 have HC3 := zM H
 clear H
 go_enter Try.func7, Try.ntmps7
 go_upto_if 13 with (first | ((with_reducible refine gate_dst (N := 2) rfl ?_); refine box_event ?hg (N := 2) ?hd (cs := #[.int .i64 a0_0, .string a0_1, .int .i64 a0_2, .int .i64 a0_3, .string a0_4, .slice A0_5 l0_5.length c0_5, .slice A0_6 l0_6.length c0_6]) (t := 25) ?hr ?_; (case hd => rfl); (case hg => rfl); (case hr => first | (go_simp; done) | (go_simp; rfl)); intro gb101 hg w4 hbox hb; have BK101 := zM (hbox); have GW101 := zM ((by rw [hg]; exact (below_size (mB HB.out)) : w.heap.size ≤ gb101)); replace HB := zM (below_step (mB HB.out) hb); have GE101 := GW101; clear hb hbox hg) | ((with_reducible refine gate_dst (N := 4) rfl ?_); refine box_event ?hg (N := 4) ?hd (cs := #[.int .i64 0, .string (⟨#[]⟩ : ByteArray), .int .i64 0, .int .i64 0, .string (⟨#[]⟩ : ByteArray), .slice none 0 0, .slice none 0 0]) (t := 25) ?hr ?_; (case hd => rfl); (case hg => rfl); (case hr => first | (go_simp; done) | (go_simp; rfl)); intro gb102 hg w5 hbox hb; have BK102 := zM (hbox); have GW102 := zM ((by rw [hg]; exact (below_size mZ) : w.heap.size ≤ gb102)); replace HB := zM (below_step mZ hb); have GE102 := GW102; have NB101_102 := zL BK101 hg; have NB102_101 := zG BK101 hg; replace BK101 := zK BK101 hb; clear hb hbox hg; have hnb6 := NB101_102.out; have hnc6 := NB102_101.out; obtain ⟨hcz7_0, hcz7_1, hcz7_2, hcz7_3, hcz7_4, hcz7_5, hcz7_6, hfz7_0, hfz7_1, hfz7_2, hfz7_3, hfz7_4, hfz7_5, hfz7_6⟩ := cells_7 BK101.out))
 (try simp only [Act.put, List.setIfInBounds_toArray, List.set_cons_zero, List.set_cons_succ])
 go_cut [] (fun wc => ∃ (kq : Nat) (x102001_2 : ByteArray), Aside0 (columbariumkeep_Cut.j0 kq a1 a0_0 x102001_2 a0_2 a0_3 a0_4 l0_5 l0_6 = some (r1, r2, r3, r4, r5, r6, r7)) ∧ Aside0 (kq ≤ k) ∧ Aside0 (wc.heap[gb101]? = some (.cells #[.int .i64 a0_0, .string x102001_2, .int .i64 a0_2, .int .i64 a0_3, .string a0_4, (.slice A0_5 l0_5.length c0_5), (.slice A0_6 l0_6.length c0_6)] 25 (0, 0))) ∧ Aside0 (wc.heap[gb102]? = some (.cells #[.int .i64 0, .string (⟨#[]⟩ : ByteArray), .int .i64 0, .int .i64 0, .string (⟨#[]⟩ : ByteArray), (.slice none 0 0), (.slice none 0 0)] 25 (0, 0))) ∧ Aside0 (Below w.heap.size w wc))
 case first =>
  have H := HC3.out
  clear HC3
  by_cases c8 : (a0_1.size : Int) > 20
  ·rw [if_pos c8] at H
   have c8b0 : decide (20 < (a0_1.size : Int)) = true := decide_eq_true c8
   have c8b1 : decide (20 < a0_1.size) = true := decide_eq_true (by omega)
   clear c8
   (first | rw [c8b0] | rw [c8b1] | (simp only [i64_w, i32_w]; rw [c8b0]) | skip)
   by_cases c9 : 0 ≤ 20
   ·rw [if_pos c9] at H
    have c9b0 := eq_true c9
    have c9b1 : decide (0 ≤ 20) = true := decide_eq_true c9
    clear c9
    by_cases c10 : 20 ≤ (a0_1.size : Int)
    ·rw [if_pos c10] at H
     have c10b0 := eq_true c10
     have c10b1 : decide (20 ≤ (a0_1.size : Int)) = true := decide_eq_true c10
     clear c10
     have H' := Aside0.mk H
     clear H
     have hnb11 := NB101_102.out
     have hnc11 := NB102_101.out
     obtain ⟨hcz12_0, hcz12_1, hcz12_2, hcz12_3, hcz12_4, hcz12_5, hcz12_6, hfz12_0, hfz12_1, hfz12_2, hfz12_3, hfz12_4, hfz12_5, hfz12_6⟩ := cells_7 BK101.out
     go_wp2
     go_meet
     case rel => exact ⟨_, (a0_1.extract 0 20), H', ⟨by first | omega | exact Nat.le_refl _⟩, ⟨by (with_reducible repeat (first | refine blk_drewN ?_ _ | refine blk_drew ?_ | refine blk_alloc ?_ _)); refine blk_put (cs := #[.int .i64 a0_0, .string a0_1, .int .i64 a0_2, .int .i64 a0_3, .string a0_4, .slice A0_5 l0_5.length c0_5, .slice A0_6 l0_6.length c0_6]) ?_ 1 _ rfl; (with_reducible repeat (first | refine blk_drewN ?_ _ | refine blk_drew ?_ | refine blk_alloc ?_ _)); exact BK101.out⟩, ⟨by (with_reducible repeat (first | refine blk_drewN ?_ _ | refine blk_drew ?_ | refine blk_alloc ?_ _)); refine blk_far ?_ NB102_101.out _; (with_reducible repeat (first | refine blk_drewN ?_ _ | refine blk_drew ?_ | refine blk_alloc ?_ _)); exact BK102.out⟩, ⟨mZ⟩⟩
    rw [if_neg c10] at H
    exact absurd H (by simp)
   rw [if_neg c9] at H
   exact absurd H (by simp)
  rw [if_neg c8] at H
  have c8b0 : decide (20 < (a0_1.size : Int)) = false := decide_eq_false c8
  have c8b1 : decide (20 < a0_1.size) = false := decide_eq_false (by omega)
  clear c8
  (first | rw [c8b0] | rw [c8b1] | (simp only [i64_w, i32_w]; rw [c8b0]) | skip)
  have H' := Aside0.mk H
  clear H
  go_wp2
  go_meet
  case rel => exact ⟨_, (a0_1), H', ⟨by first | omega | exact Nat.le_refl _⟩, ⟨mK BK101.out⟩, ⟨mK BK102.out⟩, ⟨mZ⟩⟩
 clear HC3
 try clear c8
 try clear c8b0
 try clear c8b1
 try clear c9
 try clear c9b0
 try clear c9b1
 try clear c10
 try clear c10b0
 try clear c10b1
 try clear hcz12_0
 try clear hcz12_1
 try clear hcz12_2
 try clear hcz12_3
 try clear hcz12_4
 try clear hcz12_5
 try clear hcz12_6
 try clear hcz7_0
 try clear hcz7_1
 try clear hcz7_2
 try clear hcz7_3
 try clear hcz7_4
 try clear hcz7_5
 try clear hcz7_6
 try clear hfz12_0
 try clear hfz12_1
 try clear hfz12_2
 try clear hfz12_3
 try clear hfz12_4
 try clear hfz12_5
 try clear hfz12_6
 try clear hfz7_0
 try clear hfz7_1
 try clear hfz7_2
 try clear hfz7_3
 try clear hfz7_4
 try clear hfz7_5
 try clear hfz7_6
 obtain ⟨kq, x102001_2, HA, HJ2, BK101, BK102, HB⟩ := hcut
 cases kq with
 | zero => exact absurd HA.out (by simp [columbariumkeep_Cut.j0])
 | succ kj2 =>
  have H := HA.out
  clear HA
  simp only [columbariumkeep_Cut.j0] at H
  have HC13 := zM H
  clear H
  have hnb14 := NB101_102.out
  have hnc14 := NB102_101.out
  obtain ⟨hcz15_0, hcz15_1, hcz15_2, hcz15_3, hcz15_4, hcz15_5, hcz15_6, hfz15_0, hfz15_1, hfz15_2, hfz15_3, hfz15_4, hfz15_5, hfz15_6⟩ := cells_7 BK101.out
  go_upto_if 21 with (fail)
  go_cut [] (fun wc => ∃ (kq : Nat) (x102004_12 : ByteArray), Aside0 (columbariumkeep_Cut.j1 kq a1 a0_0 x102001_2 a0_2 a0_3 x102004_12 l0_5 l0_6 = some (r1, r2, r3, r4, r5, r6, r7)) ∧ Aside0 (kq ≤ kj2) ∧ Aside0 (wc.heap[gb101]? = some (.cells #[.int .i64 a0_0, .string x102001_2, .int .i64 a0_2, .int .i64 a0_3, .string x102004_12, (.slice A0_5 l0_5.length c0_5), (.slice A0_6 l0_6.length c0_6)] 25 (0, 0))) ∧ Aside0 (wc.heap[gb102]? = some (.cells #[.int .i64 0, .string (⟨#[]⟩ : ByteArray), .int .i64 0, .int .i64 0, .string (⟨#[]⟩ : ByteArray), (.slice none 0 0), (.slice none 0 0)] 25 (0, 0))) ∧ Aside0 (Below w.heap.size w wc))
  case first =>
   have H := HC13.out
   clear HC13
   by_cases c16 : (a0_4.size : Int) > 41
   ·rw [if_pos c16] at H
    have c16b0 : decide (41 < (a0_4.size : Int)) = true := decide_eq_true c16
    have c16b1 : decide (41 < a0_4.size) = true := decide_eq_true (by omega)
    clear c16
    (first | rw [c16b0] | rw [c16b1] | (simp only [i64_w, i32_w]; rw [c16b0]) | skip)
    by_cases c17 : 0 ≤ 41
    ·rw [if_pos c17] at H
     have c17b0 := eq_true c17
     have c17b1 : decide (0 ≤ 41) = true := decide_eq_true c17
     clear c17
     by_cases c18 : 41 ≤ (a0_4.size : Int)
     ·rw [if_pos c18] at H
      have c18b0 := eq_true c18
      have c18b1 : decide (41 ≤ (a0_4.size : Int)) = true := decide_eq_true c18
      clear c18
      have H' := Aside0.mk H
      clear H
      have hnb19 := NB101_102.out
      have hnc19 := NB102_101.out
      obtain ⟨hcz20_0, hcz20_1, hcz20_2, hcz20_3, hcz20_4, hcz20_5, hcz20_6, hfz20_0, hfz20_1, hfz20_2, hfz20_3, hfz20_4, hfz20_5, hfz20_6⟩ := cells_7 BK101.out
      go_wp2
      go_meet
      case rel => exact ⟨_, (a0_4.extract 0 41), H', ⟨by have := HJ2.out; first | omega | exact Nat.le_refl _⟩, ⟨by (with_reducible repeat (first | refine blk_drewN ?_ _ | refine blk_drew ?_ | refine blk_alloc ?_ _)); refine blk_put (cs := #[.int .i64 a0_0, .string x102001_2, .int .i64 a0_2, .int .i64 a0_3, .string a0_4, .slice A0_5 l0_5.length c0_5, .slice A0_6 l0_6.length c0_6]) ?_ 4 _ rfl; (with_reducible repeat (first | refine blk_drewN ?_ _ | refine blk_drew ?_ | refine blk_alloc ?_ _)); exact BK101.out⟩, ⟨by (with_reducible repeat (first | refine blk_drewN ?_ _ | refine blk_drew ?_ | refine blk_alloc ?_ _)); refine blk_far ?_ NB102_101.out _; (with_reducible repeat (first | refine blk_drewN ?_ _ | refine blk_drew ?_ | refine blk_alloc ?_ _)); exact BK102.out⟩, ⟨mZ⟩⟩
     rw [if_neg c18] at H
     exact absurd H (by simp)
    rw [if_neg c17] at H
    exact absurd H (by simp)
   rw [if_neg c16] at H
   have c16b0 : decide (41 < (a0_4.size : Int)) = false := decide_eq_false c16
   have c16b1 : decide (41 < a0_4.size) = false := decide_eq_false (by omega)
   clear c16
   (first | rw [c16b0] | rw [c16b1] | (simp only [i64_w, i32_w]; rw [c16b0]) | skip)
   have H' := Aside0.mk H
   clear H
   go_wp2
   go_meet
   case rel => exact ⟨_, (a0_4), H', ⟨by have := HJ2.out; first | omega | exact Nat.le_refl _⟩, ⟨mK BK101.out⟩, ⟨mK BK102.out⟩, ⟨mZ⟩⟩
  clear HC13
  try clear c8
  try clear c8b0
  try clear c8b1
  try clear c9
  try clear c9b0
  try clear c9b1
  try clear c10
  try clear c10b0
  try clear c10b1
  try clear c16
  try clear c16b0
  try clear c16b1
  try clear c17
  try clear c17b0
  try clear c17b1
  try clear c18
  try clear c18b0
  try clear c18b1
  try clear hcz12_0
  try clear hcz12_1
  try clear hcz12_2
  try clear hcz12_3
  try clear hcz12_4
  try clear hcz12_5
  try clear hcz12_6
  try clear hcz15_0
  try clear hcz15_1
  try clear hcz15_2
  try clear hcz15_3
  try clear hcz15_4
  try clear hcz15_5
  try clear hcz15_6
  try clear hcz20_0
  try clear hcz20_1
  try clear hcz20_2
  try clear hcz20_3
  try clear hcz20_4
  try clear hcz20_5
  try clear hcz20_6
  try clear hcz7_0
  try clear hcz7_1
  try clear hcz7_2
  try clear hcz7_3
  try clear hcz7_4
  try clear hcz7_5
  try clear hcz7_6
  try clear hfz12_0
  try clear hfz12_1
  try clear hfz12_2
  try clear hfz12_3
  try clear hfz12_4
  try clear hfz12_5
  try clear hfz12_6
  try clear hfz15_0
  try clear hfz15_1
  try clear hfz15_2
  try clear hfz15_3
  try clear hfz15_4
  try clear hfz15_5
  try clear hfz15_6
  try clear hfz20_0
  try clear hfz20_1
  try clear hfz20_2
  try clear hfz20_3
  try clear hfz20_4
  try clear hfz20_5
  try clear hfz20_6
  try clear hfz7_0
  try clear hfz7_1
  try clear hfz7_2
  try clear hfz7_3
  try clear hfz7_4
  try clear hfz7_5
  try clear hfz7_6
  obtain ⟨kq, x102004_12, HA, HJ12, BK101, BK102, HB⟩ := hcut
  cases kq with
  | zero => exact absurd HA.out (by simp [columbariumkeep_Cut.j1])
  | succ kj12 =>
   have H := HA.out
   clear HA
   simp only [columbariumkeep_Cut.j1] at H
   have H' := Aside0.mk H
   clear H
   go_wp2
   go_loopg [5, 6] kj12 (fun kq v5 v6 w' => ∃ (x5_3 : List ByteArray) (x6_3 : Int), v6 = .int .i64 x6_3 ∧ Aside0 (columbariumkeep_Cut.l0 kq a1 x5_3 x6_3 a0_0 x102001_2 a0_2 a0_3 x102004_12 l0_5 l0_6 = some (r1, r2, r3, r4, r5, r6, r7)) ∧ Aside0 (kq ≤ kj12) ∧ Aside0 (Kd.R Kd.string 9 w' w.heap.size (fun _ => True) v5 x5_3) ∧ Aside0 (w'.heap[gb101]? = some (.cells #[.int .i64 a0_0, .string x102001_2, .int .i64 a0_2, .int .i64 a0_3, .string x102004_12, (.slice A0_5 l0_5.length c0_5), (.slice A0_6 l0_6.length c0_6)] 25 (0, 0))) ∧ Aside0 (w'.heap[gb102]? = some (.cells #[.int .i64 0, .string (⟨#[]⟩ : ByteArray), .int .i64 0, .int .i64 0, .string (⟨#[]⟩ : ByteArray), (.slice none 0 0), (.slice none 0 0)] 25 (0, 0))) ∧ Aside0 (Below w.heap.size w w'))
   case atStart => exact ⟨(([] : List ByteArray)), (0), ya, H', ⟨Nat.le_refl _⟩, ⟨by first | exact Kd.R_nil _ _ _ _ _ | exact Kd.N_nil _ _ _ _ _ | exact Kd.V_nil _ _ _ _ _ | exact Kd.Q_nil _ _ _ _ _ | exact Kd.S_nil _ _ _ _ _⟩, ⟨mK BK101.out⟩, ⟨mK BK102.out⟩, ⟨mZ⟩⟩
   case round =>
    clear H'
    try clear c8
    try clear c8b0
    try clear c8b1
    try clear c9
    try clear c9b0
    try clear c9b1
    try clear c10
    try clear c10b0
    try clear c10b1
    try clear c16
    try clear c16b0
    try clear c16b1
    try clear c17
    try clear c17b0
    try clear c17b1
    try clear c18
    try clear c18b0
    try clear c18b1
    try clear hcz12_0
    try clear hcz12_1
    try clear hcz12_2
    try clear hcz12_3
    try clear hcz12_4
    try clear hcz12_5
    try clear hcz12_6
    try clear hcz15_0
    try clear hcz15_1
    try clear hcz15_2
    try clear hcz15_3
    try clear hcz15_4
    try clear hcz15_5
    try clear hcz15_6
    try clear hcz20_0
    try clear hcz20_1
    try clear hcz20_2
    try clear hcz20_3
    try clear hcz20_4
    try clear hcz20_5
    try clear hcz20_6
    try clear hcz7_0
    try clear hcz7_1
    try clear hcz7_2
    try clear hcz7_3
    try clear hcz7_4
    try clear hcz7_5
    try clear hcz7_6
    try clear hfz12_0
    try clear hfz12_1
    try clear hfz12_2
    try clear hfz12_3
    try clear hfz12_4
    try clear hfz12_5
    try clear hfz12_6
    try clear hfz15_0
    try clear hfz15_1
    try clear hfz15_2
    try clear hfz15_3
    try clear hfz15_4
    try clear hfz15_5
    try clear hfz15_6
    try clear hfz20_0
    try clear hfz20_1
    try clear hfz20_2
    try clear hfz20_3
    try clear hfz20_4
    try clear hfz20_5
    try clear hfz20_6
    try clear hfz7_0
    try clear hfz7_1
    try clear hfz7_2
    try clear hfz7_3
    try clear hfz7_4
    try clear hfz7_5
    try clear hfz7_6
    try clear BK101
    try clear BK102
    obtain ⟨x5_3, x6_3, rfl, HA, HK3, HO_5, BK101, BK102, HB⟩ := hrel
    cases gk with
    | zero => exact absurd HA.out (by simp [columbariumkeep_Cut.l0])
    | succ k3 =>
     have H := HA.out
     clear HA
     simp only [columbariumkeep_Cut.l0] at H
     have HC21 := zM H
     clear H
     go_upto_region 7 with (fail)
     go_cut [34] (fun v34 wc => ∃ (kq : Nat) (x34_20 : Bool), v34 = .bool x34_20 ∧ Aside0 (columbariumkeep_Cut.j3 kq a1 x5_3 x6_3 x34_20 a0_0 x102001_2 a0_2 a0_3 x102004_12 l0_5 l0_6 = some (r1, r2, r3, r4, r5, r6, r7)) ∧ Aside0 (kq ≤ k3) ∧ Aside0 (Kd.R Kd.string 9 wc w.heap.size (fun _ => True) u5 x5_3) ∧ Aside0 (wc.heap[gb101]? = some (.cells #[.int .i64 a0_0, .string x102001_2, .int .i64 a0_2, .int .i64 a0_3, .string x102004_12, (.slice A0_5 l0_5.length c0_5), (.slice A0_6 l0_6.length c0_6)] 25 (0, 0))) ∧ Aside0 (wc.heap[gb102]? = some (.cells #[.int .i64 0, .string (⟨#[]⟩ : ByteArray), .int .i64 0, .int .i64 0, .string (⟨#[]⟩ : ByteArray), (.slice none 0 0), (.slice none 0 0)] 25 (0, 0))) ∧ Aside0 (Below w.heap.size w wc))
     case first =>
      have H := HC21.out
      clear HC21
      by_cases c22 : x6_3 < (l0_5.length : Int)
      ·rw [if_pos c22] at H
       have c22b0 : decide (x6_3 < (l0_5.length : Int)) = true := decide_eq_true c22
       clear c22
       (first | rw [c22b0] | rw [c22b1] | (simp only [i64_w, i32_w]; rw [c22b0]) | skip)
       have H' := Aside0.mk H
       clear H
       have hnb23 := NB101_102.out
       have hnc23 := NB102_101.out
       obtain ⟨hcz24_0, hcz24_1, hcz24_2, hcz24_3, hcz24_4, hcz24_5, hcz24_6, hfz24_0, hfz24_1, hfz24_2, hfz24_3, hfz24_4, hfz24_5, hfz24_6⟩ := cells_7 BK101.out
       go_wp2
       go_meet
       case rel => exact ⟨_, (decide (x6_3 < 9)), ya, H', ⟨by have := HJ2.out; have := HJ12.out; have := HK3.out; first | omega | exact Nat.le_refl _⟩, ⟨mR HO_5.out⟩, ⟨mK BK101.out⟩, ⟨mK BK102.out⟩, ⟨mZ⟩⟩
      rw [if_neg c22] at H
      have c22b0 : decide (x6_3 < (l0_5.length : Int)) = false := decide_eq_false c22
      clear c22
      (first | rw [c22b0] | rw [c22b1] | (simp only [i64_w, i32_w]; rw [c22b0]) | skip)
      have H' := Aside0.mk H
      clear H
      have hnb25 := NB101_102.out
      have hnc25 := NB102_101.out
      obtain ⟨hcz26_0, hcz26_1, hcz26_2, hcz26_3, hcz26_4, hcz26_5, hcz26_6, hfz26_0, hfz26_1, hfz26_2, hfz26_3, hfz26_4, hfz26_5, hfz26_6⟩ := cells_7 BK101.out
      go_wp2
      go_meet
      case rel => exact ⟨_, (false), ya, H', ⟨by have := HJ2.out; have := HJ12.out; have := HK3.out; first | omega | exact Nat.le_refl _⟩, ⟨mR HO_5.out⟩, ⟨mK BK101.out⟩, ⟨mK BK102.out⟩, ⟨mZ⟩⟩
     clear HC21
     try clear c8
     try clear c8b0
     try clear c8b1
     try clear c9
     try clear c9b0
     try clear c9b1
     try clear c10
     try clear c10b0
     try clear c10b1
     try clear c16
     try clear c16b0
     try clear c16b1
     try clear c17
     try clear c17b0
     try clear c17b1
     try clear c18
     try clear c18b0
     try clear c18b1
     try clear c22
     try clear c22b0
     try clear c22b1
     try clear hcz12_0
     try clear hcz12_1
     try clear hcz12_2
     try clear hcz12_3
     try clear hcz12_4
     try clear hcz12_5
     try clear hcz12_6
     try clear hcz15_0
     try clear hcz15_1
     try clear hcz15_2
     try clear hcz15_3
     try clear hcz15_4
     try clear hcz15_5
     try clear hcz15_6
     try clear hcz20_0
     try clear hcz20_1
     try clear hcz20_2
     try clear hcz20_3
     try clear hcz20_4
     try clear hcz20_5
     try clear hcz20_6
     try clear hcz24_0
     try clear hcz24_1
     try clear hcz24_2
     try clear hcz24_3
     try clear hcz24_4
     try clear hcz24_5
     try clear hcz24_6
     try clear hcz26_0
     try clear hcz26_1
     try clear hcz26_2
     try clear hcz26_3
     try clear hcz26_4
     try clear hcz26_5
     try clear hcz26_6
     try clear hcz7_0
     try clear hcz7_1
     try clear hcz7_2
     try clear hcz7_3
     try clear hcz7_4
     try clear hcz7_5
     try clear hcz7_6
     try clear hfz12_0
     try clear hfz12_1
     try clear hfz12_2
     try clear hfz12_3
     try clear hfz12_4
     try clear hfz12_5
     try clear hfz12_6
     try clear hfz15_0
     try clear hfz15_1
     try clear hfz15_2
     try clear hfz15_3
     try clear hfz15_4
     try clear hfz15_5
     try clear hfz15_6
     try clear hfz20_0
     try clear hfz20_1
     try clear hfz20_2
     try clear hfz20_3
     try clear hfz20_4
     try clear hfz20_5
     try clear hfz20_6
     try clear hfz24_0
     try clear hfz24_1
     try clear hfz24_2
     try clear hfz24_3
     try clear hfz24_4
     try clear hfz24_5
     try clear hfz24_6
     try clear hfz26_0
     try clear hfz26_1
     try clear hfz26_2
     try clear hfz26_3
     try clear hfz26_4
     try clear hfz26_5
     try clear hfz26_6
     try clear hfz7_0
     try clear hfz7_1
     try clear hfz7_2
     try clear hfz7_3
     try clear hfz7_4
     try clear hfz7_5
     try clear hfz7_6
     obtain ⟨kq, x34_20, rfl, HA, HJ20, HO_5, BK101, BK102, HB⟩ := hcut
     cases kq with
     | zero => exact absurd HA.out (by simp [columbariumkeep_Cut.j3])
     | succ kj20 =>
      have H := HA.out
      clear HA
      simp only [columbariumkeep_Cut.j3] at H
      by_cases c27 : x34_20 = true
      ·subst c27
       rw [if_pos rfl] at H
       by_cases c28 : 0 ≤ x6_3
       ·rw [if_pos c28] at H
        have c28b0 : decide (0 ≤ x6_3) = true := decide_eq_true c28
        clear c28
        by_cases c29 : x6_3 < (l0_5.length : Int)
        ·rw [if_pos c29] at H
         have c29b0 : decide (x6_3 < (l0_5.length : Int)) = true := decide_eq_true c29
         clear c29
         by_cases c30 : ((rdOf ByteArray.empty l0_5 x6_3).size : Int) > 41
         ·rw [if_pos c30] at H
          have c30b0 : decide (41 < ((rdOf ByteArray.empty l0_5 x6_3).size : Int)) = true := decide_eq_true c30
          have c30b1 : decide (41 < (rdOf ByteArray.empty l0_5 x6_3).size) = true := decide_eq_true (by omega)
          clear c30
          by_cases c31 : 0 ≤ 41
          ·rw [if_pos c31] at H
           have c31b0 := eq_true c31
           have c31b1 : decide (0 ≤ 41) = true := decide_eq_true c31
           clear c31
           by_cases c32 : 41 ≤ ((rdOf ByteArray.empty l0_5 x6_3).size : Int)
           ·rw [if_pos c32] at H
            have c32b0 := eq_true c32
            have c32b1 : decide (41 ≤ ((rdOf ByteArray.empty l0_5 x6_3).size : Int)) = true := decide_eq_true c32
            clear c32
            by_cases c33 : x5_3.length < 8796093022208
            ·rw [if_pos c33] at H
             have LMc33 := zM c33
             clear c33
             obtain ⟨y104, hy104⟩ : ∃ y_ : List ByteArray, y_ = (x5_3 ++ [(rdOf ByteArray.empty l0_5 x6_3).extract 0 41]) := ⟨_, rfl⟩
             replace H : (columbariumkeep_Cut.l0 kj20 a1 y104 (wrap64 (x6_3 + 1)) a0_0 x102001_2 a0_2 a0_3 x102004_12 l0_5 l0_6) = some (r1, r2, r3, r4, r5, r6, r7) := by first | (rw [hy104]; with_reducible exact H) | (have H2_ := (Option.bind_some _ _).symm.trans H; rw [hy104]; with_reducible exact H2_) | (have H2_ := (Option.bind_some _ _).symm.trans H; with_reducible exact H2_) | with_reducible exact H | (rw [hy104]; exact H) | exact H
             have Ny104 := zM hy104
             clear hy104
             have H' := Aside0.mk H
             clear H
             have hnb34 := NB101_102.out
             have hnc34 := NB102_101.out
             obtain ⟨hcz35_0, hcz35_1, hcz35_2, hcz35_3, hcz35_4, hcz35_5, hcz35_6, hfz35_0, hfz35_1, hfz35_2, hfz35_3, hfz35_4, hfz35_5, hfz35_6⟩ := cells_7 BK101.out
             have p103 : 0 ≤ (x6_3 : Int) := zA
             have q103 : x6_3 < (l0_5.length : Int) := zA
             obtain ⟨ad103, e103, hx103_0⟩ := Kd.at_string HR0_5.out x6_3 p103 q103
             cases e103
             replace hx103_0 := zH HB hx103_0
             replace p103 := eq_true p103
             replace q103 := eq_true q103
             go_wp2_with (first | ((with_reducible refine gate_builtin (b := .append) (xs := #[.tmp 47, .tmp 49]) rfl ?_); at_builtin; refine Kd.R_append Kd.string (w0 := w) w.heap.size rfl (.tmp 47) (.tmp 49) 22 9 (.string ⟨#[]⟩) 16 rfl Try.underlying22 info9 rfl (by decide) (by omega) u5 x5_3 ((rdOf ByteArray.empty l0_5 x6_3).extract 0 41) [.string ((rdOf ByteArray.empty l0_5 x6_3).extract 0 41)] (fun _ => True) (fun _ => False) rfl rfl ?aP (fun _ hk => hk.elim) ?aF ?aO ?aB ?aS ?aL ?_; (case aP => exact rfl); (case aB => exact mZ); (case aF => exact (fun _ _ => trivial)); (case aO => exact (mR HO_5.out)); (case aS => exact (below_size mZ)); (case aL => have := LMc33.out; omega); intro v105 w36 ho hb hg hat; rw [← Ny104.out] at ho; replace BK101 := zM (blk_grown (mK BK101.out) hg (Kd.R_ne HO_5.out BK101.out (by decide))); replace BK102 := zM (blk_grown (mK BK102.out) hg (Kd.R_ne HO_5.out BK102.out (by decide))); replace HB := zM (hb); have HO106 := zM (ho); clear HO_5; clear ho hb hg hat))
             go_roundg kj20
             case measure => have := HJ2.out; have := HJ12.out; have := HK3.out; have := HJ20.out; omega
             case rel => exact ⟨(y104), (wrap64 (x6_3 + 1)), ya, H', ⟨by have := HJ2.out; have := HJ12.out; have := HK3.out; have := HJ20.out; omega⟩, ⟨mR HO106.out⟩, ⟨mK BK101.out⟩, ⟨mK BK102.out⟩, ⟨mZ⟩⟩
            rw [if_neg c33] at H
            exact absurd H (by simp)
           rw [if_neg c32] at H
           exact absurd H (by simp)
          rw [if_neg c31] at H
          exact absurd H (by simp)
         rw [if_neg c30] at H
         have c30b0 : decide (41 < ((rdOf ByteArray.empty l0_5 x6_3).size : Int)) = false := decide_eq_false c30
         have c30b1 : decide (41 < (rdOf ByteArray.empty l0_5 x6_3).size) = false := decide_eq_false (by omega)
         clear c30
         by_cases c37 : x5_3.length < 8796093022208
         ·rw [if_pos c37] at H
          have LMc37 := zM c37
          clear c37
          obtain ⟨y107, hy107⟩ : ∃ y_ : List ByteArray, y_ = (x5_3 ++ [rdOf ByteArray.empty l0_5 x6_3]) := ⟨_, rfl⟩
          replace H : (columbariumkeep_Cut.l0 kj20 a1 y107 (wrap64 (x6_3 + 1)) a0_0 x102001_2 a0_2 a0_3 x102004_12 l0_5 l0_6) = some (r1, r2, r3, r4, r5, r6, r7) := by first | (rw [hy107]; with_reducible exact H) | (have H2_ := (Option.bind_some _ _).symm.trans H; rw [hy107]; with_reducible exact H2_) | (have H2_ := (Option.bind_some _ _).symm.trans H; with_reducible exact H2_) | with_reducible exact H | (rw [hy107]; exact H) | exact H
          have Ny107 := zM hy107
          clear hy107
          have H' := Aside0.mk H
          clear H
          have hnb38 := NB101_102.out
          have hnc38 := NB102_101.out
          obtain ⟨hcz39_0, hcz39_1, hcz39_2, hcz39_3, hcz39_4, hcz39_5, hcz39_6, hfz39_0, hfz39_1, hfz39_2, hfz39_3, hfz39_4, hfz39_5, hfz39_6⟩ := cells_7 BK101.out
          have p103 : 0 ≤ (x6_3 : Int) := zA
          have q103 : x6_3 < (l0_5.length : Int) := zA
          obtain ⟨ad103, e103, hx103_0⟩ := Kd.at_string HR0_5.out x6_3 p103 q103
          cases e103
          replace hx103_0 := zH HB hx103_0
          replace p103 := eq_true p103
          replace q103 := eq_true q103
          go_wp2_with (first | ((with_reducible refine gate_builtin (b := .append) (xs := #[.tmp 47, .tmp 49]) rfl ?_); at_builtin; refine Kd.R_append Kd.string (w0 := w) w.heap.size rfl (.tmp 47) (.tmp 49) 22 9 (.string ⟨#[]⟩) 16 rfl Try.underlying22 info9 rfl (by decide) (by omega) u5 x5_3 (rdOf ByteArray.empty l0_5 x6_3) [.string (rdOf ByteArray.empty l0_5 x6_3)] (fun _ => True) (fun _ => False) rfl rfl ?aP (fun _ hk => hk.elim) ?aF ?aO ?aB ?aS ?aL ?_; (case aP => exact rfl); (case aB => exact mZ); (case aF => exact (fun _ _ => trivial)); (case aO => exact (mR HO_5.out)); (case aS => exact (below_size mZ)); (case aL => have := LMc37.out; omega); intro v108 w40 ho hb hg hat; rw [← Ny107.out] at ho; replace BK101 := zM (blk_grown (mK BK101.out) hg (Kd.R_ne HO_5.out BK101.out (by decide))); replace BK102 := zM (blk_grown (mK BK102.out) hg (Kd.R_ne HO_5.out BK102.out (by decide))); replace HB := zM (hb); have HO109 := zM (ho); clear HO_5; clear ho hb hg hat))
          go_roundg kj20
          case measure => have := HJ2.out; have := HJ12.out; have := HK3.out; have := HJ20.out; omega
          case rel => exact ⟨(y107), (wrap64 (x6_3 + 1)), ya, H', ⟨by have := HJ2.out; have := HJ12.out; have := HK3.out; have := HJ20.out; omega⟩, ⟨mR HO109.out⟩, ⟨mK BK101.out⟩, ⟨mK BK102.out⟩, ⟨mZ⟩⟩
         rw [if_neg c37] at H
         exact absurd H (by simp)
        rw [if_neg c29] at H
        exact absurd H (by simp)
       rw [if_neg c28] at H
       exact absurd H (by simp)
      replace c27 := Bool.eq_false_iff.mpr c27
      subst c27
      rw [if_neg (show ¬ (false = true) by decide)] at H
      have H' := Aside0.mk H
      clear H
      obtain ⟨Ao41, co41, eo41⟩ := Kd.R_slice HO_5.out
      subst eo41
      have hnb42 := NB101_102.out
      have hnc42 := NB102_101.out
      obtain ⟨hcz43_0, hcz43_1, hcz43_2, hcz43_3, hcz43_4, hcz43_5, hcz43_6, hfz43_0, hfz43_1, hfz43_2, hfz43_3, hfz43_4, hfz43_5, hfz43_6⟩ := cells_7 BK101.out
      go_wp2
      go_loopg [8, 9] kj20 (fun kq v8 v9 w' => ∃ (x8_5 : List (S25)) (x9_5 : Int), v9 = .int .i64 x9_5 ∧ Aside0 (columbariumkeep_Cut.l1 kq a1 x8_5 x9_5 a0_0 x102001_2 a0_2 a0_3 x102004_12 x5_3 l0_6 = some (r1, r2, r3, r4, r5, r6, r7)) ∧ Aside0 (kq ≤ kj20) ∧ Aside0 (Kd.R k25 25 w' w.heap.size (fun k_ => nb k_ Ao41 x5_3.length co41 ∧ k_ ≠ gb101 ∧ k_ ≠ gb102) v8 x8_5) ∧ Aside0 (Kd.R Kd.string 9 w' w.heap.size (fun _ => True) (.slice Ao41 x5_3.length co41) x5_3) ∧ Aside0 (w'.heap[gb101]? = some (.cells #[.int .i64 a0_0, .string x102001_2, .int .i64 a0_2, .int .i64 a0_3, .string x102004_12, (.slice Ao41 x5_3.length co41), (.slice A0_6 l0_6.length c0_6)] 25 (0, 0))) ∧ Aside0 (w'.heap[gb102]? = some (.cells #[.int .i64 0, .string (⟨#[]⟩ : ByteArray), .int .i64 0, .int .i64 0, .string (⟨#[]⟩ : ByteArray), (.slice none 0 0), (.slice none 0 0)] 25 (0, 0))) ∧ Aside0 (Below w.heap.size w w'))
      case atStart => exact ⟨(([] : List (S25))), (0), ya, H', ⟨Nat.le_refl _⟩, ⟨by first | exact Kd.R_nil _ _ _ _ _ | exact Kd.N_nil _ _ _ _ _ | exact Kd.V_nil _ _ _ _ _ | exact Kd.Q_nil _ _ _ _ _ | exact Kd.S_nil _ _ _ _ _⟩, ⟨by (with_reducible repeat (first | apply Kd.R_alloc | apply Kd.R_drewN | apply Kd.R_drew)); exact Kd.R_mono (zgR (Kd.R_types HO_5.out BK101.out (by decide))) (fun _ hk => trivial)⟩, ⟨by (with_reducible repeat (first | refine blk_drewN ?_ _ | refine blk_drew ?_ | refine blk_alloc ?_ _)); refine blk_put (cs := #[.int .i64 a0_0, .string x102001_2, .int .i64 a0_2, .int .i64 a0_3, .string x102004_12, .slice A0_5 l0_5.length c0_5, .slice A0_6 l0_6.length c0_6]) ?_ 5 _ rfl; (with_reducible repeat (first | refine blk_drewN ?_ _ | refine blk_drew ?_ | refine blk_alloc ?_ _)); exact BK101.out⟩, ⟨by (with_reducible repeat (first | refine blk_drewN ?_ _ | refine blk_drew ?_ | refine blk_alloc ?_ _)); refine blk_far ?_ NB102_101.out _; (with_reducible repeat (first | refine blk_drewN ?_ _ | refine blk_drew ?_ | refine blk_alloc ?_ _)); exact BK102.out⟩, ⟨mZ⟩⟩
      case round =>
       clear H'
       try clear c8
       try clear c8b0
       try clear c8b1
       try clear c9
       try clear c9b0
       try clear c9b1
       try clear c10
       try clear c10b0
       try clear c10b1
       try clear c16
       try clear c16b0
       try clear c16b1
       try clear c17
       try clear c17b0
       try clear c17b1
       try clear c18
       try clear c18b0
       try clear c18b1
       try clear c22
       try clear c22b0
       try clear c22b1
       try clear c27
       try clear c28
       try clear c28b0
       try clear c29
       try clear c29b0
       try clear c30
       try clear c30b0
       try clear c30b1
       try clear c31
       try clear c31b0
       try clear c31b1
       try clear c32
       try clear c32b0
       try clear c32b1
       try clear c33
       try clear c37
       try clear hcz12_0
       try clear hcz12_1
       try clear hcz12_2
       try clear hcz12_3
       try clear hcz12_4
       try clear hcz12_5
       try clear hcz12_6
       try clear hcz15_0
       try clear hcz15_1
       try clear hcz15_2
       try clear hcz15_3
       try clear hcz15_4
       try clear hcz15_5
       try clear hcz15_6
       try clear hcz20_0
       try clear hcz20_1
       try clear hcz20_2
       try clear hcz20_3
       try clear hcz20_4
       try clear hcz20_5
       try clear hcz20_6
       try clear hcz24_0
       try clear hcz24_1
       try clear hcz24_2
       try clear hcz24_3
       try clear hcz24_4
       try clear hcz24_5
       try clear hcz24_6
       try clear hcz26_0
       try clear hcz26_1
       try clear hcz26_2
       try clear hcz26_3
       try clear hcz26_4
       try clear hcz26_5
       try clear hcz26_6
       try clear hcz35_0
       try clear hcz35_1
       try clear hcz35_2
       try clear hcz35_3
       try clear hcz35_4
       try clear hcz35_5
       try clear hcz35_6
       try clear hcz39_0
       try clear hcz39_1
       try clear hcz39_2
       try clear hcz39_3
       try clear hcz39_4
       try clear hcz39_5
       try clear hcz39_6
       try clear hcz43_0
       try clear hcz43_1
       try clear hcz43_2
       try clear hcz43_3
       try clear hcz43_4
       try clear hcz43_5
       try clear hcz43_6
       try clear hcz7_0
       try clear hcz7_1
       try clear hcz7_2
       try clear hcz7_3
       try clear hcz7_4
       try clear hcz7_5
       try clear hcz7_6
       try clear hfz12_0
       try clear hfz12_1
       try clear hfz12_2
       try clear hfz12_3
       try clear hfz12_4
       try clear hfz12_5
       try clear hfz12_6
       try clear hfz15_0
       try clear hfz15_1
       try clear hfz15_2
       try clear hfz15_3
       try clear hfz15_4
       try clear hfz15_5
       try clear hfz15_6
       try clear hfz20_0
       try clear hfz20_1
       try clear hfz20_2
       try clear hfz20_3
       try clear hfz20_4
       try clear hfz20_5
       try clear hfz20_6
       try clear hfz24_0
       try clear hfz24_1
       try clear hfz24_2
       try clear hfz24_3
       try clear hfz24_4
       try clear hfz24_5
       try clear hfz24_6
       try clear hfz26_0
       try clear hfz26_1
       try clear hfz26_2
       try clear hfz26_3
       try clear hfz26_4
       try clear hfz26_5
       try clear hfz26_6
       try clear hfz35_0
       try clear hfz35_1
       try clear hfz35_2
       try clear hfz35_3
       try clear hfz35_4
       try clear hfz35_5
       try clear hfz35_6
       try clear hfz39_0
       try clear hfz39_1
       try clear hfz39_2
       try clear hfz39_3
       try clear hfz39_4
       try clear hfz39_5
       try clear hfz39_6
       try clear hfz43_0
       try clear hfz43_1
       try clear hfz43_2
       try clear hfz43_3
       try clear hfz43_4
       try clear hfz43_5
       try clear hfz43_6
       try clear hfz7_0
       try clear hfz7_1
       try clear hfz7_2
       try clear hfz7_3
       try clear hfz7_4
       try clear hfz7_5
       try clear hfz7_6
       try clear hx103_0
       try clear p103
       try clear q103
       try clear BK101
       try clear BK102
       obtain ⟨x8_5, x9_5, rfl, HA, HK5, HO_8, HO_102005, BK101, BK102, HB⟩ := hrel
       cases gk with
       | zero => exact absurd HA.out (by simp [columbariumkeep_Cut.l1])
       | succ k5 =>
        have H := HA.out
        clear HA
        simp only [columbariumkeep_Cut.l1] at H
        by_cases c44 : x9_5 < (l0_6.length : Int)
        ·rw [if_pos c44] at H
         have c44b0 : decide (x9_5 < (l0_6.length : Int)) = true := decide_eq_true c44
         clear c44
         by_cases c45 : x9_5 < 4
         ·rw [if_pos c45] at H
          have c45b0 : decide (x9_5 < 4) = true := decide_eq_true c45
          clear c45
          by_cases c46 : a1 > 0
          ·rw [if_pos c46] at H
           have c46b0 : decide (0 < a1) = true := decide_eq_true c46
           clear c46
           by_cases c47 : 0 ≤ x9_5
           ·rw [if_pos c47] at H
            have c47b0 : decide (0 ≤ x9_5) = true := decide_eq_true c47
            clear c47
            replace H := Option.bind_eq_some_iff.mp H
            obtain ⟨⟨t111, t112, t113, t114, t115, t116, t119⟩, A480, H⟩ := H
            try dsimp only at H
            have A48 := zM A480
            clear A480
            by_cases c49 : x8_5.length < 1353245080339
            ·rw [if_pos c49] at H
             have LMc49 := zM c49
             clear c49
             obtain ⟨y122, hy122⟩ : ∃ y_ : List (S25), y_ = (x8_5 ++ [(⟨t111, t112, t113, t114, t115, t116, t119⟩ : S25)]) := ⟨_, rfl⟩
             replace H : (columbariumkeep_Cut.l1 k5 a1 y122 (wrap64 (x9_5 + 1)) a0_0 x102001_2 a0_2 a0_3 x102004_12 x5_3 l0_6) = some (r1, r2, r3, r4, r5, r6, r7) := by first | (rw [hy122]; with_reducible exact H) | (have H2_ := (Option.bind_some _ _).symm.trans H; rw [hy122]; with_reducible exact H2_) | (have H2_ := (Option.bind_some _ _).symm.trans H; with_reducible exact H2_) | with_reducible exact H | (rw [hy122]; exact H) | exact H
             have Ny122 := zM hy122
             clear hy122
             have H' := Aside0.mk H
             clear H
             have hnb50 := NB101_102.out
             have hnc50 := NB102_101.out
             obtain ⟨hcz51_0, hcz51_1, hcz51_2, hcz51_3, hcz51_4, hcz51_5, hcz51_6, hfz51_0, hfz51_1, hfz51_2, hfz51_3, hfz51_4, hfz51_5, hfz51_6⟩ := cells_7 BK101.out
             have p110 : 0 ≤ (x9_5 : Int) := zA
             have q110 : x9_5 < (l0_6.length : Int) := zA
             obtain ⟨ad110, A110_5, c110_5, A110_6, c110_6, e110, hx110_0, hx110_1, hx110_2, hx110_3, hx110_4, hx110_5, hx110_6, hl110_5, hi110_5, hl110_6, hi110_6⟩ := at_T25 HR0_6.out x9_5 p110 q110
             cases e110
             replace hx110_0 := zH HB hx110_0
             replace hx110_1 := zH HB hx110_1
             replace hx110_2 := zH HB hx110_2
             replace hx110_3 := zH HB hx110_3
             replace hx110_4 := zH HB hx110_4
             replace hx110_5 := zH HB hx110_5
             replace hx110_6 := zH HB hx110_6
             have HR110_5 := zM hi110_5
             have HC110_5 := zM hl110_5
             clear hi110_5 hl110_5
             have HR110_6 := zM hi110_6
             have HC110_6 := zM hl110_6
             clear hi110_6 hl110_6
             replace p110 := eq_true p110
             replace q110 := eq_true q110
             go_wp2_with (first | ((with_reducible refine gate_callee (f := 7) rfl ?_); refine goesL_ (some 76) rfl rfl Try.func7 (by kernel_rfl) rfl #[.agg #[.int .i64 ((rd_T25 l0_6 x9_5).f0), .string ((rd_T25 l0_6 x9_5).f1), .int .i64 ((rd_T25 l0_6 x9_5).f2), .int .i64 ((rd_T25 l0_6 x9_5).f3), .string ((rd_T25 l0_6 x9_5).f4), .slice A110_5 ((rd_T25 l0_6 x9_5).f5).length c110_5, .slice A110_6 ((rd_T25 l0_6 x9_5).f6).length c110_6], .int .i64 (wrap64 (a1 - 1))] rfl yb ?_; (with_reducible refine (ih k5 (by have := HJ2.out; have := HJ12.out; have := HK3.out; have := HJ20.out; have := HK5.out; omega) ((rd_T25 l0_6 x9_5).f0) ((rd_T25 l0_6 x9_5).f1) ((rd_T25 l0_6 x9_5).f2) ((rd_T25 l0_6 x9_5).f3) ((rd_T25 l0_6 x9_5).f4) _ _ ((rd_T25 l0_6 x9_5).f5) _ _ ((rd_T25 l0_6 x9_5).f6) (wrap64 (a1 - 1)) t111 t112 t113 t114 t115 t116 t119 _ ?side1 ?side2 ?side3 ?side4 A48.out).mono ?_); (case side1 => exact zC (Kd.C_below HR110_5.out HB.out)); (case side2 => first | exact HC110_5.out | exact Kd.V_mono HC110_5.out (fun k_ hk_ => by grind)); (case side3 => exact zC (Kd.C_below HR110_6.out HB.out)); (case side4 => first | exact HC110_6.out | exact Kd.V_mono HC110_6.out (fun k_ hk_ => by grind)); rintro e w52 ⟨v117, v120, rfl, ho0, ho1, hb⟩; refine ⟨_, rfl, ?_⟩; have HO118 := zM (Kd.R_lower (Kd.R_new' ho0 (Kd.R_lt (mR HO_102005.out))) (below_size mZ)); have HO121 := zM (Kd.R_lower (Kd.R_newB (Kd.R_newB (Kd.R_new' (Kd.R_new' ho1 (Kd.R_lt (mR HO_8.out))) (Kd.R_lt (mR HO_102005.out))) (mK BK101.out)) (mK BK102.out)) (below_size mZ)); replace HO_8 := zM (Kd.R_mono (Kd.R_told (Kd.R_told (Kd.R_old (mR HO_8.out) hb) (Kd.R_base ho0)) (Kd.R_base ho1)) (fun _ h_ => h_.1)); replace HO_102005 := zM (Kd.R_elder' (mR HO_102005.out) (Kd.R_base ho0) hb); replace BK101 := zK BK101 hb; replace BK102 := zK BK102 hb; replace HB := zM (below_step mZ hb); (try clear hb); (try clear ho0); (try clear ho1); obtain ⟨Ao54, co54, eo54⟩ := Kd.R_slice HO118.out; subst eo54; obtain ⟨Ao55, co55, eo55⟩ := Kd.R_slice HO121.out; subst eo55) | ((with_reducible refine gate_builtin (b := .append) (xs := #[.tmp 68, .tmp 77]) rfl ?_); at_builtin; refine Kd.R_append k25 (w0 := w) w.heap.size rfl (.tmp 68) (.tmp 77) 23 25 (.agg #[(.int .i64 0), (.string ⟨#[]⟩), (.int .i64 0), (.int .i64 0), (.string ⟨#[]⟩), (.slice none 0 0), (.slice none 0 0)]) 104 rfl Try.underlying23 info25 rfl (by decide) (by omega) u8 x8_5 (⟨t111, t112, t113, t114, t115, t116, t119⟩ : S25) [.int .i64 t111, .string t112, .int .i64 t113, .int .i64 t114, .string t115, .slice Ao54 t116.length co54, .slice Ao55 t119.length co55] (fun k_ => nb k_ Ao41 x5_3.length co41 ∧ k_ ≠ gb101 ∧ k_ ≠ gb102) (fun k_ => ((fun k_ => nb k_ Ao41 x5_3.length co41 ∧ k_ ≠ gb101 ∧ k_ ≠ gb102)) k_ ∧ some k_ ≠ (u8 : Value).ownBlock) rfl rfl ?aP (fun _ hk => hk) ?aF ?aO ?aB ?aS ?aL ?_; (case aP => exact k25_mkM _ _ _ (⟨t111, t112, t113, t114, t115, t116, t119⟩ : S25) (Kd.R_mono (Kd.R_types (Kd.R_types (Kd.R_apart' (HO118.out) (Kd.R_typed HO_8.out) (by decide)) BK101.out (by decide)) BK102.out (by decide)) (fun k_ hk => ⟨⟨hk.1.1.1.2, ⟨hk.1.2, hk.2⟩⟩, hk.1.1.2⟩)) (Kd.R_mono (HO121.out) (fun k_ hk => ⟨⟨hk.1.1.2, ⟨hk.1.2, hk.2⟩⟩, hk.1.1.1.2⟩))); (case aB => exact mZ); (case aF => exact (fun k_ hk => ⟨fR HO_102005 hk, fK BK101 hk, fK BK102 hk⟩)); (case aO => exact (yR HO_8 (fun _ hk => ⟨hk.1.1.1, ⟨hk.1.1.2.1, hk.1.1.2.2⟩⟩))); (case aS => exact (below_size mZ)); (case aL => have := LMc49.out; omega); intro v123 w53 ho hb hg hat; rw [← Ny122.out] at ho; replace HO_102005 := zM (Kd.R_over' (mR HO_102005.out) (Kd.R_typed (mR HO_8.out)) (by decide) hg); replace BK101 := zM (blk_grown (mK BK101.out) hg (Kd.R_away HO_8.out (fun _ hk => hk.1.1.2.1))); replace BK102 := zM (blk_grown (mK BK102.out) hg (Kd.R_away HO_8.out (fun _ hk => hk.1.1.2.2))); replace HB := zM (hb); have HO124 := zM (ho); clear HO_8 HO118 HO121; clear ho hb hg hat))
             go_roundg k5
             case measure => have := HJ2.out; have := HJ12.out; have := HK3.out; have := HJ20.out; have := HK5.out; omega
             case rel => exact ⟨(y122), (wrap64 (x9_5 + 1)), ya, H', ⟨by have := HJ2.out; have := HJ12.out; have := HK3.out; have := HJ20.out; have := HK5.out; omega⟩, ⟨mR HO124.out⟩, ⟨yR HO_102005 (fun _ hk => trivial)⟩, ⟨mK BK101.out⟩, ⟨mK BK102.out⟩, ⟨mZ⟩⟩
            rw [if_neg c49] at H
            exact absurd H (by simp)
           rw [if_neg c47] at H
           exact absurd H (by simp)
          rw [if_neg c46] at H
          have c46b0 : decide (0 < a1) = false := decide_eq_false c46
          clear c46
          simp only [Option.some.injEq, Prod.mk.injEq] at H
          obtain ⟨rfl, rfl, rfl, rfl, rfl, rfl, rfl⟩ := H
          have hnb56 := NB101_102.out
          have hnc56 := NB102_101.out
          obtain ⟨hcz57_0, hcz57_1, hcz57_2, hcz57_3, hcz57_4, hcz57_5, hcz57_6, hfz57_0, hfz57_1, hfz57_2, hfz57_3, hfz57_4, hfz57_5, hfz57_6⟩ := cells_7 BK101.out
          obtain ⟨Ao58, co58, eo58⟩ := Kd.R_slice HO_8.out
          subst eo58
          obtain ⟨hcz59_0, hcz59_1, hcz59_2, hcz59_3, hcz59_4, hcz59_5, hcz59_6, hfz59_0, hfz59_1, hfz59_2, hfz59_3, hfz59_4, hfz59_5, hfz59_6⟩ := cells_7 BK102.out
          go_wp2
          refine bodyPost_ret (results_cell_row rfl _ _ gb102 25 #[.int .i64 a0_0, .string x102001_2, .int .i64 a0_2, .int .i64 a0_3, .string x102004_12, .slice Ao41 x5_3.length co41, .slice Ao58 x8_5.length co58] (0, 0) _ rfl (by (with_reducible repeat (first | refine blk_drewN ?_ _ | refine blk_drew ?_ | refine blk_alloc ?_ _)); apply puts_7; refine blk_far ?_ NB102_101.out _; (with_reducible repeat (first | refine blk_drewN ?_ _ | refine blk_drew ?_ | refine blk_alloc ?_ _)); exact BK102.out) Try.underlying25 rfl (by kernel_rfl)) rfl ?_
          exact ⟨_, _, by first | rfl | (simp [errW_none, errW_some] <;> rfl) | (simp [*, errW_none, errW_some] <;> rfl), by (with_reducible repeat (first | apply Kd.R_alloc | apply Kd.R_drewN | apply Kd.R_drew)); exact Kd.R_mono (Kd.R_far (p := ⟨gb102, 6, none⟩) (Kd.R_far (p := ⟨gb102, 5, none⟩) (Kd.R_far (p := ⟨gb102, 4, none⟩) (Kd.R_far (p := ⟨gb102, 3, none⟩) (Kd.R_far (p := ⟨gb102, 2, none⟩) (Kd.R_far (p := ⟨gb102, 1, none⟩) (Kd.R_far (p := ⟨gb102, 0, none⟩) (Kd.R_far (p := ⟨gb101, 6, none⟩) (Kd.R_types (Kd.R_types HO_102005.out BK101.out (by decide)) BK102.out (by decide)) (fun _ hk => hk.1.2) (.slice Ao58 x8_5.length co58)) (fun _ hk => hk.2) (.int .i64 a0_0)) (fun _ hk => hk.2) (.string x102001_2)) (fun _ hk => hk.2) (.int .i64 a0_2)) (fun _ hk => hk.2) (.int .i64 a0_3)) (fun _ hk => hk.2) (.string x102004_12)) (fun _ hk => hk.2) (.slice Ao41 x5_3.length co41)) (fun _ hk => hk.2) (.slice Ao58 x8_5.length co58)) (fun _ hk => trivial), by (with_reducible repeat (first | apply Kd.R_alloc | apply Kd.R_drewN | apply Kd.R_drew)); exact Kd.R_mono (Kd.R_far (p := ⟨gb102, 6, none⟩) (Kd.R_far (p := ⟨gb102, 5, none⟩) (Kd.R_far (p := ⟨gb102, 4, none⟩) (Kd.R_far (p := ⟨gb102, 3, none⟩) (Kd.R_far (p := ⟨gb102, 2, none⟩) (Kd.R_far (p := ⟨gb102, 1, none⟩) (Kd.R_far (p := ⟨gb102, 0, none⟩) (Kd.R_far (p := ⟨gb101, 6, none⟩) (Kd.R_mono (Kd.R_mono HO_8.out (fun k_ hk => (⟨hk, hk.2.1⟩ : _ ∧ k_ ≠ gb101))) (fun k_ hk => (⟨hk, hk.1.2.2⟩ : _ ∧ k_ ≠ gb102))) (fun _ hk => hk.1.2) (.slice Ao58 x8_5.length co58)) (fun _ hk => hk.2) (.int .i64 a0_0)) (fun _ hk => hk.2) (.string x102001_2)) (fun _ hk => hk.2) (.int .i64 a0_2)) (fun _ hk => hk.2) (.int .i64 a0_3)) (fun _ hk => hk.2) (.string x102004_12)) (fun _ hk => hk.2) (.slice Ao41 x5_3.length co41)) (fun _ hk => hk.2) (.slice Ao58 x8_5.length co58)) (fun _ hk => hk.1.1.1), mZ⟩
         rw [if_neg c45] at H
         have c45b0 : decide (x9_5 < 4) = false := decide_eq_false c45
         clear c45
         simp only [Option.some.injEq, Prod.mk.injEq] at H
         obtain ⟨rfl, rfl, rfl, rfl, rfl, rfl, rfl⟩ := H
         have hnb60 := NB101_102.out
         have hnc60 := NB102_101.out
         obtain ⟨hcz61_0, hcz61_1, hcz61_2, hcz61_3, hcz61_4, hcz61_5, hcz61_6, hfz61_0, hfz61_1, hfz61_2, hfz61_3, hfz61_4, hfz61_5, hfz61_6⟩ := cells_7 BK101.out
         obtain ⟨Ao62, co62, eo62⟩ := Kd.R_slice HO_8.out
         subst eo62
         obtain ⟨hcz63_0, hcz63_1, hcz63_2, hcz63_3, hcz63_4, hcz63_5, hcz63_6, hfz63_0, hfz63_1, hfz63_2, hfz63_3, hfz63_4, hfz63_5, hfz63_6⟩ := cells_7 BK102.out
         go_wp2
         refine bodyPost_ret (results_cell_row rfl _ _ gb102 25 #[.int .i64 a0_0, .string x102001_2, .int .i64 a0_2, .int .i64 a0_3, .string x102004_12, .slice Ao41 x5_3.length co41, .slice Ao62 x8_5.length co62] (0, 0) _ rfl (by (with_reducible repeat (first | refine blk_drewN ?_ _ | refine blk_drew ?_ | refine blk_alloc ?_ _)); apply puts_7; refine blk_far ?_ NB102_101.out _; (with_reducible repeat (first | refine blk_drewN ?_ _ | refine blk_drew ?_ | refine blk_alloc ?_ _)); exact BK102.out) Try.underlying25 rfl (by kernel_rfl)) rfl ?_
         exact ⟨_, _, by first | rfl | (simp [errW_none, errW_some] <;> rfl) | (simp [*, errW_none, errW_some] <;> rfl), by (with_reducible repeat (first | apply Kd.R_alloc | apply Kd.R_drewN | apply Kd.R_drew)); exact Kd.R_mono (Kd.R_far (p := ⟨gb102, 6, none⟩) (Kd.R_far (p := ⟨gb102, 5, none⟩) (Kd.R_far (p := ⟨gb102, 4, none⟩) (Kd.R_far (p := ⟨gb102, 3, none⟩) (Kd.R_far (p := ⟨gb102, 2, none⟩) (Kd.R_far (p := ⟨gb102, 1, none⟩) (Kd.R_far (p := ⟨gb102, 0, none⟩) (Kd.R_far (p := ⟨gb101, 6, none⟩) (Kd.R_types (Kd.R_types HO_102005.out BK101.out (by decide)) BK102.out (by decide)) (fun _ hk => hk.1.2) (.slice Ao62 x8_5.length co62)) (fun _ hk => hk.2) (.int .i64 a0_0)) (fun _ hk => hk.2) (.string x102001_2)) (fun _ hk => hk.2) (.int .i64 a0_2)) (fun _ hk => hk.2) (.int .i64 a0_3)) (fun _ hk => hk.2) (.string x102004_12)) (fun _ hk => hk.2) (.slice Ao41 x5_3.length co41)) (fun _ hk => hk.2) (.slice Ao62 x8_5.length co62)) (fun _ hk => trivial), by (with_reducible repeat (first | apply Kd.R_alloc | apply Kd.R_drewN | apply Kd.R_drew)); exact Kd.R_mono (Kd.R_far (p := ⟨gb102, 6, none⟩) (Kd.R_far (p := ⟨gb102, 5, none⟩) (Kd.R_far (p := ⟨gb102, 4, none⟩) (Kd.R_far (p := ⟨gb102, 3, none⟩) (Kd.R_far (p := ⟨gb102, 2, none⟩) (Kd.R_far (p := ⟨gb102, 1, none⟩) (Kd.R_far (p := ⟨gb102, 0, none⟩) (Kd.R_far (p := ⟨gb101, 6, none⟩) (Kd.R_mono (Kd.R_mono HO_8.out (fun k_ hk => (⟨hk, hk.2.1⟩ : _ ∧ k_ ≠ gb101))) (fun k_ hk => (⟨hk, hk.1.2.2⟩ : _ ∧ k_ ≠ gb102))) (fun _ hk => hk.1.2) (.slice Ao62 x8_5.length co62)) (fun _ hk => hk.2) (.int .i64 a0_0)) (fun _ hk => hk.2) (.string x102001_2)) (fun _ hk => hk.2) (.int .i64 a0_2)) (fun _ hk => hk.2) (.int .i64 a0_3)) (fun _ hk => hk.2) (.string x102004_12)) (fun _ hk => hk.2) (.slice Ao41 x5_3.length co41)) (fun _ hk => hk.2) (.slice Ao62 x8_5.length co62)) (fun _ hk => hk.1.1.1), mZ⟩
        rw [if_neg c44] at H
        have c44b0 : decide (x9_5 < (l0_6.length : Int)) = false := decide_eq_false c44
        clear c44
        simp only [Option.some.injEq, Prod.mk.injEq] at H
        obtain ⟨rfl, rfl, rfl, rfl, rfl, rfl, rfl⟩ := H
        have hnb64 := NB101_102.out
        have hnc64 := NB102_101.out
        obtain ⟨hcz65_0, hcz65_1, hcz65_2, hcz65_3, hcz65_4, hcz65_5, hcz65_6, hfz65_0, hfz65_1, hfz65_2, hfz65_3, hfz65_4, hfz65_5, hfz65_6⟩ := cells_7 BK101.out
        obtain ⟨Ao66, co66, eo66⟩ := Kd.R_slice HO_8.out
        subst eo66
        obtain ⟨hcz67_0, hcz67_1, hcz67_2, hcz67_3, hcz67_4, hcz67_5, hcz67_6, hfz67_0, hfz67_1, hfz67_2, hfz67_3, hfz67_4, hfz67_5, hfz67_6⟩ := cells_7 BK102.out
        go_wp2
        refine bodyPost_ret (results_cell_row rfl _ _ gb102 25 #[.int .i64 a0_0, .string x102001_2, .int .i64 a0_2, .int .i64 a0_3, .string x102004_12, .slice Ao41 x5_3.length co41, .slice Ao66 x8_5.length co66] (0, 0) _ rfl (by (with_reducible repeat (first | refine blk_drewN ?_ _ | refine blk_drew ?_ | refine blk_alloc ?_ _)); apply puts_7; refine blk_far ?_ NB102_101.out _; (with_reducible repeat (first | refine blk_drewN ?_ _ | refine blk_drew ?_ | refine blk_alloc ?_ _)); exact BK102.out) Try.underlying25 rfl (by kernel_rfl)) rfl ?_
        exact ⟨_, _, by first | rfl | (simp [errW_none, errW_some] <;> rfl) | (simp [*, errW_none, errW_some] <;> rfl), by (with_reducible repeat (first | apply Kd.R_alloc | apply Kd.R_drewN | apply Kd.R_drew)); exact Kd.R_mono (Kd.R_far (p := ⟨gb102, 6, none⟩) (Kd.R_far (p := ⟨gb102, 5, none⟩) (Kd.R_far (p := ⟨gb102, 4, none⟩) (Kd.R_far (p := ⟨gb102, 3, none⟩) (Kd.R_far (p := ⟨gb102, 2, none⟩) (Kd.R_far (p := ⟨gb102, 1, none⟩) (Kd.R_far (p := ⟨gb102, 0, none⟩) (Kd.R_far (p := ⟨gb101, 6, none⟩) (Kd.R_types (Kd.R_types HO_102005.out BK101.out (by decide)) BK102.out (by decide)) (fun _ hk => hk.1.2) (.slice Ao66 x8_5.length co66)) (fun _ hk => hk.2) (.int .i64 a0_0)) (fun _ hk => hk.2) (.string x102001_2)) (fun _ hk => hk.2) (.int .i64 a0_2)) (fun _ hk => hk.2) (.int .i64 a0_3)) (fun _ hk => hk.2) (.string x102004_12)) (fun _ hk => hk.2) (.slice Ao41 x5_3.length co41)) (fun _ hk => hk.2) (.slice Ao66 x8_5.length co66)) (fun _ hk => trivial), by (with_reducible repeat (first | apply Kd.R_alloc | apply Kd.R_drewN | apply Kd.R_drew)); exact Kd.R_mono (Kd.R_far (p := ⟨gb102, 6, none⟩) (Kd.R_far (p := ⟨gb102, 5, none⟩) (Kd.R_far (p := ⟨gb102, 4, none⟩) (Kd.R_far (p := ⟨gb102, 3, none⟩) (Kd.R_far (p := ⟨gb102, 2, none⟩) (Kd.R_far (p := ⟨gb102, 1, none⟩) (Kd.R_far (p := ⟨gb102, 0, none⟩) (Kd.R_far (p := ⟨gb101, 6, none⟩) (Kd.R_mono (Kd.R_mono HO_8.out (fun k_ hk => (⟨hk, hk.2.1⟩ : _ ∧ k_ ≠ gb101))) (fun k_ hk => (⟨hk, hk.1.2.2⟩ : _ ∧ k_ ≠ gb102))) (fun _ hk => hk.1.2) (.slice Ao66 x8_5.length co66)) (fun _ hk => hk.2) (.int .i64 a0_0)) (fun _ hk => hk.2) (.string x102001_2)) (fun _ hk => hk.2) (.int .i64 a0_2)) (fun _ hk => hk.2) (.int .i64 a0_3)) (fun _ hk => hk.2) (.string x102004_12)) (fun _ hk => hk.2) (.slice Ao41 x5_3.length co41)) (fun _ hk => hk.2) (.slice Ao66 x8_5.length co66)) (fun _ hk => hk.1.1.1), mZ⟩

end Go.Proofs.Ytalpcnomfebdiaa.QPredRules
