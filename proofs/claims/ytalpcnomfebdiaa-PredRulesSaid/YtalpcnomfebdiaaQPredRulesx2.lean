-- Written by a program of this session (wip/myprint.py): the machine's side of a law
import Derived.Test.YtalpcnomfebdiaaQPredRulesx0
namespace Go.Proofs.Ytalpcnomfebdiaa.QPredRules
open Go.RowKit Go.Proofs.YtalpcnomfebdiaaW.PrintWords Go.Proofs.YtalpcnomfebdiaaW.PrintLast Go.Proofs.YtalpcnomfebdiaaW.PrintMore
attribute [local go_sem] max2_int min2_int max_two min_two max_three min_three max_four min_four   -- for this text's walks alone
set_option linter.unusedVariables false
set_option linter.unusedSimpArgs false

/-! ### pred_Size: function 20 -/
mutual
def pred_Size.l0 : Nat → Int → List (S25) → Int → Int → Option (Int)
 | 0, _, _, _, _ => none
 | k + 1, x3, x7, x8, x9 => if x9 < x8 then (if 0 ≤ x9 then (if x9 < (x7.length : Int) then ((pred_Size.f k ((rd_T25 x7 x9).f0) ((rd_T25 x7 x9).f1) ((rd_T25 x7 x9).f2) ((rd_T25 x7 x9).f3) ((rd_T25 x7 x9).f4) ((rd_T25 x7 x9).f5) ((rd_T25 x7 x9).f6)).bind fun t128 => (pred_Size.l0 k (wrap64 (x3 + t128)) x7 x8 (wrap64 (x9 + 1)))) else (none)) else (none)) else (some x3)
def pred_Size.f : Nat → Int → ByteArray → Int → Int → ByteArray → List ByteArray → List (S25) → Option (Int)
 | 0, _, _, _, _, _, _, _ => none
 | k + 1, a0_0, a0_1, a0_2, a0_3, a0_4, l0_5, l0_6 => pred_Size.l0 k 1 l0_6 (l0_6.length : Int) 0
end
theorem pred_Size.mono_l : ∀ k, (∀ y0 y1 y2 y3 y4 y5 y6, LeO (pred_Size.f k y0 y1 y2 y3 y4 y5 y6) (pred_Size.f (k + 1) y0 y1 y2 y3 y4 y5 y6)) ∧ (∀ y0 y1 y2 y3, LeO (pred_Size.l0 k y0 y1 y2 y3) (pred_Size.l0 (k + 1) y0 y1 y2 y3))
 | 0 => ⟨fun _ _ _ _ _ _ _ r h => by simp [pred_Size.f] at h, fun _ _ _ _ r h => by simp [pred_Size.l0] at h⟩
 | k + 1 => by
  obtain ⟨ih0, ih1⟩ := pred_Size.mono_l k
  refine ⟨?_, ?_⟩
  ·intro y0 y1 y2 y3 y4 y5 y6
   unfold pred_Size.f
   repeat' first
   | (with_reducible exact ih0 _ _ _ _ _ _ _)
   | (with_reducible exact ih1 _ _ _ _)
   | (with_reducible exact LeO.refl _)
   | (with_reducible exact LeO.none _)
   | (with_reducible refine LeO.ite ?_ ?_)
   | (with_reducible refine LeO.bind ?_ (fun _ => ?_))
   | exact ih0 _ _ _ _ _ _ _
   | exact ih1 _ _ _ _
   | exact LeO.none _
   | refine LeO.ite ?_ ?_
   | refine LeO.bind ?_ (fun _ => ?_)
  intro y0 y1 y2 y3
  unfold pred_Size.l0
  repeat' first
  | (with_reducible exact ih0 _ _ _ _ _ _ _)
  | (with_reducible exact ih1 _ _ _ _)
  | (with_reducible exact LeO.refl _)
  | (with_reducible exact LeO.none _)
  | (with_reducible refine LeO.ite ?_ ?_)
  | (with_reducible refine LeO.bind ?_ (fun _ => ?_))
  | exact ih0 _ _ _ _ _ _ _
  | exact ih1 _ _ _ _
  | exact LeO.none _
  | refine LeO.ite ?_ ?_
  | refine LeO.bind ?_ (fun _ => ?_)
theorem pred_Size.mono : ∀ a0 a1 a2 a3 a4 a5 a6 k, LeO (pred_Size.f k a0 a1 a2 a3 a4 a5 a6) (pred_Size.f (k + 1) a0 a1 a2 a3 a4 a5 a6) := by
 intro a0 a1 a2 a3 a4 a5 a6 k
 obtain ⟨ih0, ih1⟩ := pred_Size.mono_l k
 exact ih0 a0 a1 a2 a3 a4 a5 a6
set_option maxHeartbeats 8000000 in
set_option maxRecDepth 100000 in
theorem pred_Size.calls (k : Nat) : ∀ (a0_0 : Int) (a0_1 : ByteArray) (a0_2 : Int) (a0_3 : Int) (a0_4 : ByteArray) (A0_5 : Option Addr) (c0_5 : Nat) (l0_5 : List ByteArray) (A0_6 : Option Addr) (c0_6 : Nat) (l0_6 : List (S25)) (r : Int) (w : World) (hr0_5 : Kd.C Kd.string w A0_5 l0_5.length l0_5) (hc0_5 : l0_5.length ≤ c0_5) (hr0_6 : Kd.C k25 w A0_6 l0_6.length l0_6) (hc0_6 : l0_6.length ≤ c0_6) (h : pred_Size.f k a0_0 a0_1 a0_2 a0_3 a0_4 l0_5 l0_6 = some r),
  Calls Try.prog 20 #[.agg #[.int .i64 a0_0, .string a0_1, .int .i64 a0_2, .int .i64 a0_3, .string a0_4, .slice A0_5 l0_5.length c0_5, .slice A0_6 l0_6.length c0_6]] w fun e w' => e = .returned (.int .i64 r) ∧ Below w.heap.size w w' := by
 induction k using Nat.strongRecOn with
 | _ k ih =>
 intro a0_0 a0_1 a0_2 a0_3 a0_4 A0_5 c0_5 l0_5 A0_6 c0_6 l0_6 r w hr0_5 hc0_5 hr0_6 hc0_6 h
 cases k with
 | zero => exact absurd h (by simp [pred_Size.f])
 | succ k =>
 simp only [pred_Size.f] at h
 have hu25 := Try.underlying25
 have HR0_5 := zM hr0_5
 have HC0_5 := zM hc0_5
 clear hr0_5 hc0_5
 have HR0_6 := zM hr0_6
 have HC0_6 := zM hc0_6
 clear hr0_6 hc0_6
 have HB := zM (Below.refl w.heap.size w)
 have H : (pred_Size.l0 k 1 l0_6 (l0_6.length : Int) 0) = some r := h
 clear h
 have H' := Aside0.mk H
 clear H
 go_enter Try.func20, Try.ntmps20
 go_wp2_with (first | ((with_reducible refine gate_dst (N := 1) rfl ?_); refine box_event ?hg (N := 1) ?hd (cs := #[.int .i64 a0_0, .string a0_1, .int .i64 a0_2, .int .i64 a0_3, .string a0_4, .slice A0_5 l0_5.length c0_5, .slice A0_6 l0_6.length c0_6]) (t := 25) ?hr ?_; (case hd => rfl); (case hg => rfl); (case hr => first | (go_simp; done) | (go_simp; rfl)); intro gb125 hg w2 hbox hb; have BK125 := zM (hbox); have GW125 := zM ((by rw [hg]; exact (below_size (mB HB.out)) : w.heap.size ≤ gb125)); replace HB := zM (below_step (mB HB.out) hb); have GE125 := GW125; clear hb hbox hg; obtain ⟨hcz3_0, hcz3_1, hcz3_2, hcz3_3, hcz3_4, hcz3_5, hcz3_6, hfz3_0, hfz3_1, hfz3_2, hfz3_3, hfz3_4, hfz3_5, hfz3_6⟩ := cells_7 BK125.out))
 try simp only [Act.put, List.setIfInBounds_toArray, List.set_cons_zero, List.set_cons_succ]
 go_loopg [3, 9] k (fun kq v3 v9 w' => ∃ (x3_1 : Int) (x9_1 : Int), v3 = .int .i64 x3_1 ∧ v9 = .int .i64 x9_1 ∧ Aside0 (pred_Size.l0 kq x3_1 l0_6 (l0_6.length : Int) x9_1 = some r) ∧ Aside0 (kq ≤ k) ∧ Aside0 (w'.heap[gb125]? = some (.cells #[.int .i64 a0_0, .string a0_1, .int .i64 a0_2, .int .i64 a0_3, .string a0_4, (.slice A0_5 l0_5.length c0_5), (.slice A0_6 l0_6.length c0_6)] 25 (0, 0))) ∧ Aside0 (Below w.heap.size w w'))
 case atStart => exact ⟨(1), (0), ya, ya, H', ⟨Nat.le_refl _⟩, ⟨mK BK125.out⟩, ⟨mZ⟩⟩
 case round =>
  clear H'
  try clear hcz3_0
  try clear hcz3_1
  try clear hcz3_2
  try clear hcz3_3
  try clear hcz3_4
  try clear hcz3_5
  try clear hcz3_6
  try clear hfz3_0
  try clear hfz3_1
  try clear hfz3_2
  try clear hfz3_3
  try clear hfz3_4
  try clear hfz3_5
  try clear hfz3_6
  try clear BK125
  obtain ⟨x3_1, x9_1, rfl, rfl, HA, HK1, BK125, HB⟩ := hrel
  cases gk with
  | zero => exact absurd HA.out (by simp [pred_Size.l0])
  | succ k1 =>
   have H := HA.out
   clear HA
   simp only [pred_Size.l0] at H
   by_cases c4 : x9_1 < (l0_6.length : Int)
   ·rw [if_pos c4] at H
    have c4b0 : decide (x9_1 < (l0_6.length : Int)) = true := decide_eq_true c4
    clear c4
    by_cases c5 : 0 ≤ x9_1
    ·rw [if_pos c5] at H
     have c5b0 : decide (0 ≤ x9_1) = true := decide_eq_true c5
     clear c5
     by_cases c6 : x9_1 < (l0_6.length : Int)
     ·rw [if_pos c6] at H
      have c6b0 : decide (x9_1 < (l0_6.length : Int)) = true := decide_eq_true c6
      clear c6
      replace H := Option.bind_eq_some_iff.mp H
      obtain ⟨t128, A70, H⟩ := H
      try dsimp only at H
      have A7 := zM A70
      clear A70
      have H' := Aside0.mk H
      clear H
      have p126 : 0 ≤ (x9_1 : Int) := zA
      have q126 : x9_1 < (l0_6.length : Int) := zA
      obtain ⟨ad126, A126_5, c126_5, A126_6, c126_6, e126, hx126_0, hx126_1, hx126_2, hx126_3, hx126_4, hx126_5, hx126_6, hl126_5, hi126_5, hl126_6, hi126_6⟩ := at_T25 HR0_6.out x9_1 p126 q126
      cases e126
      replace hx126_0 := zH HB hx126_0
      replace hx126_1 := zH HB hx126_1
      replace hx126_2 := zH HB hx126_2
      replace hx126_3 := zH HB hx126_3
      replace hx126_4 := zH HB hx126_4
      replace hx126_5 := zH HB hx126_5
      replace hx126_6 := zH HB hx126_6
      have HR126_5 := zM hi126_5
      have HC126_5 := zM hl126_5
      clear hi126_5 hl126_5
      have HR126_6 := zM hi126_6
      have HC126_6 := zM hl126_6
      clear hi126_6 hl126_6
      replace p126 := eq_true p126
      replace q126 := eq_true q126
      go_wp2_with (first | ((with_reducible refine gate_dst (N := 5) rfl ?_); refine box_event ?hg (N := 5) ?hd (cs := #[.int .i64 0, .string (⟨#[]⟩ : ByteArray), .int .i64 0, .int .i64 0, .string (⟨#[]⟩ : ByteArray), .slice none 0 0, .slice none 0 0]) (t := 25) ?hr ?_; (case hd => rfl); (case hg => rfl); (case hr => first | (go_simp; done) | (go_simp; rfl)); intro gb127 hg w8 hbox hb; have BK127 := zM (hbox); have GW127 := zM ((by rw [hg]; exact (below_size mZ) : w.heap.size ≤ gb127)); replace HB := zM (below_step mZ hb); have GE127 := GW127; have NB125_127 := zL BK125 hg; have NB127_125 := zG BK125 hg; replace BK125 := zK BK125 hb; clear hb hbox hg; have hnb9 := NB127_125.out; have hnc9 := NB125_127.out; obtain ⟨hcz10_0, hcz10_1, hcz10_2, hcz10_3, hcz10_4, hcz10_5, hcz10_6, hfz10_0, hfz10_1, hfz10_2, hfz10_3, hfz10_4, hfz10_5, hfz10_6⟩ := cells_7 BK127.out) | ((with_reducible refine gate_callee (f := 20) rfl ?_); refine goesL_ (some 15) rfl rfl Try.func20 (by kernel_rfl) rfl #[.agg #[.int .i64 ((rd_T25 l0_6 x9_1).f0), .string ((rd_T25 l0_6 x9_1).f1), .int .i64 ((rd_T25 l0_6 x9_1).f2), .int .i64 ((rd_T25 l0_6 x9_1).f3), .string ((rd_T25 l0_6 x9_1).f4), .slice A126_5 ((rd_T25 l0_6 x9_1).f5).length c126_5, .slice A126_6 ((rd_T25 l0_6 x9_1).f6).length c126_6]] rfl yb ?_; (with_reducible refine (ih k1 (by have := HK1.out; omega) ((rd_T25 l0_6 x9_1).f0) ((rd_T25 l0_6 x9_1).f1) ((rd_T25 l0_6 x9_1).f2) ((rd_T25 l0_6 x9_1).f3) ((rd_T25 l0_6 x9_1).f4) _ _ ((rd_T25 l0_6 x9_1).f5) _ _ ((rd_T25 l0_6 x9_1).f6) t128 _ ?side1 ?side2 ?side3 ?side4 A7.out).mono ?_); (case side1 => exact Kd.C_below HR126_5.out mZ); (case side2 => first | exact HC126_5.out | exact Kd.V_mono HC126_5.out (fun k_ hk_ => by grind)); (case side3 => exact Kd.C_below HR126_6.out mZ); (case side4 => first | exact HC126_6.out | exact Kd.V_mono HC126_6.out (fun k_ hk_ => by grind)); rintro e w11 ⟨rfl, hb⟩; refine ⟨_, rfl, ?_⟩; replace BK125 := zM (blk_below (zF BK125.out NB125_127.out) hb); replace BK127 := zP7 BK127 hb; replace HB := zM (below_step mZ hb); (try clear hb)))
      go_roundg k1
      case measure => have := HK1.out; omega
      case rel => exact ⟨(wrap64 (x3_1 + t128)), (wrap64 (x9_1 + 1)), ya, ya, H', ⟨by have := HK1.out; omega⟩, ⟨mK BK125.out⟩, ⟨mZ⟩⟩
     rw [if_neg c6] at H
     exact absurd H (by simp)
    rw [if_neg c5] at H
    exact absurd H (by simp)
   rw [if_neg c4] at H
   have c4b0 : decide (x9_1 < (l0_6.length : Int)) = false := decide_eq_false c4
   clear c4
   obtain rfl := Option.some.inj H
   go_wp2
   go_ret
   exact ⟨by first | rfl | (simp [errW_none, errW_some] <;> rfl) | (simp [*, errW_none, errW_some] <;> rfl), mZ⟩

/-! ### pred_bare: function 49 -/
mutual
def pred_bare.j0 : Nat → Int → Bool → Int → ByteArray → Int → Int → ByteArray → List ByteArray → List (S25) → Option (Int × ByteArray × Int × Int × ByteArray × List ByteArray × (List (S25)))
 | 0, _, _, _, _, _, _, _, _, _ => none
 | k + 1, x4, x5, x130000, x130001, x130002, x130003, x130004, x130005, x130006 => if x5 = true then (some (x130000, (⟨#[]⟩ : ByteArray), 0, 0, (⟨#[]⟩ : ByteArray), ([] : List ByteArray), x130006)) else (if x4 = 4 then (pred_bare.j1 k x4 (x4 == 4) x130000 x130001 x130002 x130003 x130004 x130005 x130006) else (pred_bare.j1 k x4 (x4 == 5) x130000 x130001 x130002 x130003 x130004 x130005 x130006))
def pred_bare.j1 : Nat → Int → Bool → Int → ByteArray → Int → Int → ByteArray → List ByteArray → List (S25) → Option (Int × ByteArray × Int × Int × ByteArray × List ByteArray × (List (S25)))
 | 0, _, _, _, _, _, _, _, _, _ => none
 | k + 1, x4, x14, x130000, x130001, x130002, x130003, x130004, x130005, x130006 => if x14 = true then (some (x130000, x130001, x130002, 0, (⟨#[]⟩ : ByteArray), ([] : List ByteArray), ([] : List (S25)))) else (if x4 = 6 then (pred_bare.j2 k x4 (x4 == 6) x130000 x130001 x130002 x130003 x130004 x130005 x130006) else (pred_bare.j2 k x4 (x4 == 8) x130000 x130001 x130002 x130003 x130004 x130005 x130006))
def pred_bare.j2 : Nat → Int → Bool → Int → ByteArray → Int → Int → ByteArray → List ByteArray → List (S25) → Option (Int × ByteArray × Int × Int × ByteArray × List ByteArray × (List (S25)))
 | 0, _, _, _, _, _, _, _, _, _ => none
 | k + 1, x4, x24, x130000, x130001, x130002, x130003, x130004, x130005, x130006 => if x24 = true then (some (x130000, x130001, 0, 0, x130004, ([] : List ByteArray), ([] : List (S25)))) else (if x4 = 7 then (some (x130000, x130001, 0, 0, (⟨#[]⟩ : ByteArray), x130005, ([] : List (S25)))) else (if x4 = 9 then (some (x130000, x130001, 0, 0, (⟨#[]⟩ : ByteArray), ([] : List ByteArray), ([] : List (S25)))) else (if x4 = 10 then (some (x130000, (⟨#[]⟩ : ByteArray), x130002, x130003, (⟨#[]⟩ : ByteArray), ([] : List ByteArray), ([] : List (S25)))) else (some (0, (⟨#[]⟩ : ByteArray), 0, 0, (⟨#[]⟩ : ByteArray), ([] : List ByteArray), ([] : List (S25)))))))
end
def pred_bare.f (k : Nat) (a0_0 : Int) (a0_1 : ByteArray) (a0_2 : Int) (a0_3 : Int) (a0_4 : ByteArray) (l0_5 : List ByteArray) (l0_6 : List (S25)) : Option (Int × ByteArray × Int × Int × ByteArray × List ByteArray × (List (S25))) := if a0_0 = 1 then (pred_bare.j0 k a0_0 (a0_0 == 1) a0_0 a0_1 a0_2 a0_3 a0_4 l0_5 l0_6) else (if a0_0 = 2 then (pred_bare.j0 k a0_0 (a0_0 == 2) a0_0 a0_1 a0_2 a0_3 a0_4 l0_5 l0_6) else (pred_bare.j0 k a0_0 (a0_0 == 3) a0_0 a0_1 a0_2 a0_3 a0_4 l0_5 l0_6))
theorem pred_bare.mono_l : ∀ k, (∀ y0 y1 y2 y3 y4 y5 y6 y7 y8, LeO (pred_bare.j0 k y0 y1 y2 y3 y4 y5 y6 y7 y8) (pred_bare.j0 (k + 1) y0 y1 y2 y3 y4 y5 y6 y7 y8)) ∧ (∀ y0 y1 y2 y3 y4 y5 y6 y7 y8, LeO (pred_bare.j1 k y0 y1 y2 y3 y4 y5 y6 y7 y8) (pred_bare.j1 (k + 1) y0 y1 y2 y3 y4 y5 y6 y7 y8)) ∧ (∀ y0 y1 y2 y3 y4 y5 y6 y7 y8, LeO (pred_bare.j2 k y0 y1 y2 y3 y4 y5 y6 y7 y8) (pred_bare.j2 (k + 1) y0 y1 y2 y3 y4 y5 y6 y7 y8))
 | 0 => ⟨fun _ _ _ _ _ _ _ _ _ r h => by simp [pred_bare.j0] at h, fun _ _ _ _ _ _ _ _ _ r h => by simp [pred_bare.j1] at h, fun _ _ _ _ _ _ _ _ _ r h => by simp [pred_bare.j2] at h⟩
 | k + 1 => by
  obtain ⟨ih0, ih1, ih2⟩ := pred_bare.mono_l k
  refine ⟨?_, ?_, ?_⟩
  ·intro y0 y1 y2 y3 y4 y5 y6 y7 y8
   unfold pred_bare.j0
   repeat' first
   | (with_reducible exact ih0 _ _ _ _ _ _ _ _ _)
   | (with_reducible exact ih1 _ _ _ _ _ _ _ _ _)
   | (with_reducible exact ih2 _ _ _ _ _ _ _ _ _)
   | (with_reducible exact LeO.refl _)
   | (with_reducible exact LeO.none _)
   | (with_reducible refine LeO.ite ?_ ?_)
   | (with_reducible refine LeO.bind ?_ (fun _ => ?_))
   | exact ih0 _ _ _ _ _ _ _ _ _
   | exact ih1 _ _ _ _ _ _ _ _ _
   | exact ih2 _ _ _ _ _ _ _ _ _
   | exact LeO.none _
   | refine LeO.ite ?_ ?_
   | refine LeO.bind ?_ (fun _ => ?_)
  ·intro y0 y1 y2 y3 y4 y5 y6 y7 y8
   unfold pred_bare.j1
   repeat' first
   | (with_reducible exact ih0 _ _ _ _ _ _ _ _ _)
   | (with_reducible exact ih1 _ _ _ _ _ _ _ _ _)
   | (with_reducible exact ih2 _ _ _ _ _ _ _ _ _)
   | (with_reducible exact LeO.refl _)
   | (with_reducible exact LeO.none _)
   | (with_reducible refine LeO.ite ?_ ?_)
   | (with_reducible refine LeO.bind ?_ (fun _ => ?_))
   | exact ih0 _ _ _ _ _ _ _ _ _
   | exact ih1 _ _ _ _ _ _ _ _ _
   | exact ih2 _ _ _ _ _ _ _ _ _
   | exact LeO.none _
   | refine LeO.ite ?_ ?_
   | refine LeO.bind ?_ (fun _ => ?_)
  intro y0 y1 y2 y3 y4 y5 y6 y7 y8
  unfold pred_bare.j2
  repeat' first
  | (with_reducible exact ih0 _ _ _ _ _ _ _ _ _)
  | (with_reducible exact ih1 _ _ _ _ _ _ _ _ _)
  | (with_reducible exact ih2 _ _ _ _ _ _ _ _ _)
  | (with_reducible exact LeO.refl _)
  | (with_reducible exact LeO.none _)
  | (with_reducible refine LeO.ite ?_ ?_)
  | (with_reducible refine LeO.bind ?_ (fun _ => ?_))
  | exact ih0 _ _ _ _ _ _ _ _ _
  | exact ih1 _ _ _ _ _ _ _ _ _
  | exact ih2 _ _ _ _ _ _ _ _ _
  | exact LeO.none _
  | refine LeO.ite ?_ ?_
  | refine LeO.bind ?_ (fun _ => ?_)
theorem pred_bare.mono : ∀ a0 a1 a2 a3 a4 a5 a6 k, LeO (pred_bare.f k a0 a1 a2 a3 a4 a5 a6) (pred_bare.f (k + 1) a0 a1 a2 a3 a4 a5 a6) := by
 intro a0 a1 a2 a3 a4 a5 a6 k
 obtain ⟨ih0, ih1, ih2⟩ := pred_bare.mono_l k
 unfold pred_bare.f
 repeat' first
   | (with_reducible exact ih0 _ _ _ _ _ _ _ _ _)
   | (with_reducible exact ih1 _ _ _ _ _ _ _ _ _)
   | (with_reducible exact ih2 _ _ _ _ _ _ _ _ _)
   | (with_reducible exact LeO.refl _)
   | (with_reducible exact LeO.none _)
   | (with_reducible refine LeO.ite ?_ ?_)
   | (with_reducible refine LeO.bind ?_ (fun _ => ?_))
   | exact ih0 _ _ _ _ _ _ _ _ _
   | exact ih1 _ _ _ _ _ _ _ _ _
   | exact ih2 _ _ _ _ _ _ _ _ _
   | exact LeO.none _
   | refine LeO.ite ?_ ?_
   | refine LeO.bind ?_ (fun _ => ?_)
set_option maxHeartbeats 8000000 in
set_option maxRecDepth 100000 in
theorem pred_bare.calls (k : Nat) (a0_0 : Int) (a0_1 : ByteArray) (a0_2 : Int) (a0_3 : Int) (a0_4 : ByteArray) (P0_5_ : Nat → Prop) (A0_5 : Option Addr) (c0_5 : Nat) (l0_5 : List ByteArray) (P0_6_ : Nat → Prop) (A0_6 : Option Addr) (c0_6 : Nat) (l0_6 : List (S25)) (r1 : Int) (r2 : ByteArray) (r3 : Int) (r4 : Int) (r5 : ByteArray) (r6 : List ByteArray) (r7 : List (S25)) (w : World) (hs0_5 : Kd.V Kd.string 9 w w.heap.size (fun k_ => P0_5_ k_) (.slice A0_5 l0_5.length c0_5) l0_5) (hs0_6 : Kd.V k25 25 w w.heap.size (fun k_ => P0_6_ k_) (.slice A0_6 l0_6.length c0_6) l0_6) (h : pred_bare.f k a0_0 a0_1 a0_2 a0_3 a0_4 l0_5 l0_6 = some (r1, r2, r3, r4, r5, r6, r7)) :
  Calls Try.prog 49 #[.agg #[.int .i64 a0_0, .string a0_1, .int .i64 a0_2, .int .i64 a0_3, .string a0_4, .slice A0_5 l0_5.length c0_5, .slice A0_6 l0_6.length c0_6]] w fun e w' => ∃ v5_ v6_ : Value, e = .returned (.agg #[.int .i64 r1, .string r2, .int .i64 r3, .int .i64 r4, .string r5, v5_, v6_]) ∧ Kd.V Kd.string 9 w' w.heap.size (fun k_ => ((P0_5_ k_ ∨ P0_6_ k_) ∨ w.heap.size ≤ k_)) v5_ r6 ∧ Kd.V k25 25 w' w.heap.size (fun k_ => ((P0_5_ k_ ∨ P0_6_ k_) ∨ w.heap.size ≤ k_)) v6_ r7 ∧ Below w.heap.size w w' := by
 have hu25 := Try.underlying25
 have HO0_5 := zM (show Kd.V Kd.string 9 w w.heap.size (fun k_ => ((P0_5_ k_ ∨ P0_6_ k_) ∨ w.heap.size ≤ k_)) (.slice A0_5 l0_5.length c0_5) l0_5 from Kd.V_mono hs0_5 (fun k_ hk => .inl (.inl hk)))
 have HO0_6 := zM (show Kd.V k25 25 w w.heap.size (fun k_ => ((P0_5_ k_ ∨ P0_6_ k_) ∨ w.heap.size ≤ k_)) (.slice A0_6 l0_6.length c0_6) l0_6 from Kd.V_mono hs0_6 (fun k_ hk => .inl (.inr hk)))
 have HB := zM (Below.refl w.heap.size w)
 have H : (if a0_0 = 1 then (pred_bare.j0 k a0_0 (a0_0 == 1) a0_0 a0_1 a0_2 a0_3 a0_4 l0_5 l0_6) else (if a0_0 = 2 then (pred_bare.j0 k a0_0 (a0_0 == 2) a0_0 a0_1 a0_2 a0_3 a0_4 l0_5 l0_6) else (pred_bare.j0 k a0_0 (a0_0 == 3) a0_0 a0_1 a0_2 a0_3 a0_4 l0_5 l0_6))) = some (r1, r2, r3, r4, r5, r6, r7) := h
 clear h
 have HC2 := zM H
 clear H
 go_enter Try.func49, Try.ntmps49
 go_upto_if 5 with (first | ((with_reducible refine gate_dst (N := 1) rfl ?_); refine box_event ?hg (N := 1) ?hd (cs := #[.int .i64 a0_0, .string a0_1, .int .i64 a0_2, .int .i64 a0_3, .string a0_4, .slice A0_5 l0_5.length c0_5, .slice A0_6 l0_6.length c0_6]) (t := 25) ?hr ?_; (case hd => rfl); (case hg => rfl); (case hr => first | (go_simp; done) | (go_simp; rfl)); intro gb129 hg w3 hbox hb; replace HO0_5 := zM (Kd.V_below (Kd.V_elderB (mV HO0_5.out) gb129 (Nat.le_of_eq hg.symm)) hb); replace HO0_6 := zM (Kd.V_below (Kd.V_elderB (mV HO0_6.out) gb129 (Nat.le_of_eq hg.symm)) hb); have BK129 := zM (hbox); have GW129 := zM ((by rw [hg]; exact (below_size (mB HB.out)) : w.heap.size ≤ gb129)); replace HB := zM (below_step (mB HB.out) hb); have GE129 := GW129; clear hb hbox hg) | ((with_reducible refine gate_dst (N := 2) rfl ?_); refine box_event ?hg (N := 2) ?hd (cs := #[.int .i64 0, .string (⟨#[]⟩ : ByteArray), .int .i64 0, .int .i64 0, .string (⟨#[]⟩ : ByteArray), .slice none 0 0, .slice none 0 0]) (t := 25) ?hr ?_; (case hd => rfl); (case hg => rfl); (case hr => first | (go_simp; done) | (go_simp; rfl)); intro gb130 hg w4 hbox hb; replace HO0_5 := zM (Kd.V_below (Kd.V_elderB (mV HO0_5.out) gb130 (Nat.le_of_eq hg.symm)) hb); replace HO0_6 := zM (Kd.V_below (Kd.V_elderB (mV HO0_6.out) gb130 (Nat.le_of_eq hg.symm)) hb); have BK130 := zM (hbox); have GW130 := zM ((by rw [hg]; exact (below_size mZ) : w.heap.size ≤ gb130)); replace HB := zM (below_step mZ hb); have GE130 := GW130; have NB129_130 := zL BK129 hg; have NB130_129 := zG BK129 hg; replace BK129 := zK BK129 hb; clear hb hbox hg; have hnb5 := NB129_130.out; have hnc5 := NB130_129.out; obtain ⟨hcz6_0, hcz6_1, hcz6_2, hcz6_3, hcz6_4, hcz6_5, hcz6_6, hfz6_0, hfz6_1, hfz6_2, hfz6_3, hfz6_4, hfz6_5, hfz6_6⟩ := cells_7 BK129.out))
 (try simp only [Act.put, List.setIfInBounds_toArray, List.set_cons_zero, List.set_cons_succ])
 go_cut [5] (fun v5 wc => ∃ (kq : Nat) (x5_1 : Bool), v5 = .bool x5_1 ∧ Aside0 (pred_bare.j0 kq a0_0 x5_1 a0_0 a0_1 a0_2 a0_3 a0_4 l0_5 l0_6 = some (r1, r2, r3, r4, r5, r6, r7)) ∧ Aside0 (kq ≤ k) ∧ Aside0 (Kd.V Kd.string 9 wc w.heap.size (fun k_ => ((P0_5_ k_ ∨ P0_6_ k_) ∨ w.heap.size ≤ k_) ∧ k_ ≠ gb129 ∧ k_ ≠ gb130) (.slice A0_5 l0_5.length c0_5) l0_5) ∧ Aside0 (Kd.V k25 25 wc w.heap.size (fun k_ => ((P0_5_ k_ ∨ P0_6_ k_) ∨ w.heap.size ≤ k_) ∧ k_ ≠ gb129 ∧ k_ ≠ gb130) (.slice A0_6 l0_6.length c0_6) l0_6) ∧ Aside0 (wc.heap[gb129]? = some (.cells #[.int .i64 a0_0, .string a0_1, .int .i64 a0_2, .int .i64 a0_3, .string a0_4, (.slice A0_5 l0_5.length c0_5), (.slice A0_6 l0_6.length c0_6)] 25 (0, 0))) ∧ Aside0 (wc.heap[gb130]? = some (.cells #[.int .i64 0, .string (⟨#[]⟩ : ByteArray), .int .i64 0, .int .i64 0, .string (⟨#[]⟩ : ByteArray), (.slice none 0 0), (.slice none 0 0)] 25 (0, 0))) ∧ Aside0 (Below w.heap.size w wc))
 case first =>
  have H := HC2.out
  clear HC2
  by_cases c7 : a0_0 = 1
  ·rw [if_pos c7] at H
   have c7b0 : (a0_0 == 1) = true := beq_iff_eq.mpr c7
   have c7b1 : (a0_0 != 1) = false := bne_eq_false_iff_eq.mpr c7
   clear c7
   (first | rw [c7b0] | rw [c7b1] | (simp only [i64_w, i32_w]; rw [c7b0]) | skip)
   have H' := Aside0.mk H
   clear H
   go_wp2
   go_meet
   case rel => exact ⟨_, ((a0_0 == 1)), ya, H', ⟨by first | omega | exact Nat.le_refl _⟩, ⟨yV HO0_5 (fun _ hk => ⟨hk.1.1, ⟨hk.1.2, hk.2⟩⟩)⟩, ⟨yV HO0_6 (fun _ hk => ⟨hk.1.1, ⟨hk.1.2, hk.2⟩⟩)⟩, ⟨mK BK129.out⟩, ⟨mK BK130.out⟩, ⟨mZ⟩⟩
  rw [if_neg c7] at H
  have c7b0 : (a0_0 == 1) = false := beq_eq_false_iff_ne.mpr c7
  have c7b1 : (a0_0 != 1) = true := bne_iff_ne.mpr c7
  (first | rw [c7b0] | rw [c7b1] | (simp only [i64_w, i32_w]; rw [c7b0]) | skip)
  by_cases c8 : a0_0 = 2
  ·rw [if_pos c8] at H
   have c8b0 : (a0_0 == 2) = true := beq_iff_eq.mpr c8
   have c8b1 : (a0_0 != 2) = false := bne_eq_false_iff_eq.mpr c8
   clear c8
   have H' := Aside0.mk H
   clear H
   go_wp2
   go_meet
   case rel => exact ⟨_, ((a0_0 == 2)), ya, H', ⟨by first | omega | exact Nat.le_refl _⟩, ⟨yV HO0_5 (fun _ hk => ⟨hk.1.1, ⟨hk.1.2, hk.2⟩⟩)⟩, ⟨yV HO0_6 (fun _ hk => ⟨hk.1.1, ⟨hk.1.2, hk.2⟩⟩)⟩, ⟨mK BK129.out⟩, ⟨mK BK130.out⟩, ⟨mZ⟩⟩
  rw [if_neg c8] at H
  have c8b0 : (a0_0 == 2) = false := beq_eq_false_iff_ne.mpr c8
  have c8b1 : (a0_0 != 2) = true := bne_iff_ne.mpr c8
  have H' := Aside0.mk H
  clear H
  go_wp2
  go_meet
  case rel => exact ⟨_, ((a0_0 == 3)), ya, H', ⟨by first | omega | exact Nat.le_refl _⟩, ⟨yV HO0_5 (fun _ hk => ⟨hk.1.1, ⟨hk.1.2, hk.2⟩⟩)⟩, ⟨yV HO0_6 (fun _ hk => ⟨hk.1.1, ⟨hk.1.2, hk.2⟩⟩)⟩, ⟨mK BK129.out⟩, ⟨mK BK130.out⟩, ⟨mZ⟩⟩
 clear HC2
 try clear c7
 try clear c7b0
 try clear c7b1
 try clear c8
 try clear c8b0
 try clear c8b1
 try clear hcz6_0
 try clear hcz6_1
 try clear hcz6_2
 try clear hcz6_3
 try clear hcz6_4
 try clear hcz6_5
 try clear hcz6_6
 try clear hfz6_0
 try clear hfz6_1
 try clear hfz6_2
 try clear hfz6_3
 try clear hfz6_4
 try clear hfz6_5
 try clear hfz6_6
 obtain ⟨kq, x5_1, rfl, HA, HJ1, HO_130005, HO_130006, BK129, BK130, HB⟩ := hcut
 cases kq with
 | zero => exact absurd HA.out (by simp [pred_bare.j0])
 | succ kj1 =>
  have H := HA.out
  clear HA
  simp only [pred_bare.j0] at H
  by_cases c9 : x5_1 = true
  ·subst c9
   rw [if_pos rfl] at H
   simp only [Option.some.injEq, Prod.mk.injEq] at H
   obtain ⟨rfl, rfl, rfl, rfl, rfl, rfl, rfl⟩ := H
   have hnb10 := NB129_130.out
   have hnc10 := NB130_129.out
   obtain ⟨hcz11_0, hcz11_1, hcz11_2, hcz11_3, hcz11_4, hcz11_5, hcz11_6, hfz11_0, hfz11_1, hfz11_2, hfz11_3, hfz11_4, hfz11_5, hfz11_6⟩ := cells_7 BK129.out
   obtain ⟨hcz12_0, hcz12_1, hcz12_2, hcz12_3, hcz12_4, hcz12_5, hcz12_6, hfz12_0, hfz12_1, hfz12_2, hfz12_3, hfz12_4, hfz12_5, hfz12_6⟩ := cells_7 BK130.out
   go_wp2
   refine bodyPost_ret (results_cell_row rfl _ _ gb130 25 #[.int .i64 a0_0, .string (⟨#[]⟩ : ByteArray), .int .i64 0, .int .i64 0, .string (⟨#[]⟩ : ByteArray), .slice none 0 0, .slice A0_6 l0_6.length c0_6] (0, 0) _ rfl (by (with_reducible repeat (first | refine blk_drewN ?_ _ | refine blk_drew ?_ | refine blk_alloc ?_ _)); apply puts_7; (with_reducible repeat (first | refine blk_drewN ?_ _ | refine blk_drew ?_ | refine blk_alloc ?_ _)); exact BK130.out) Try.underlying25 rfl (by kernel_rfl)) rfl ?_
   exact ⟨_, _, by first | rfl | (simp [errW_none, errW_some] <;> rfl) | (simp [*, errW_none, errW_some] <;> rfl), by first | exact Kd.V_nil _ _ _ _ _ | (exact (by first | exact Kd.R_nil _ _ _ _ _ | exact Kd.N_nil _ _ _ _ _ | exact Kd.V_nil _ _ _ _ _ | exact Kd.Q_nil _ _ _ _ _ | exact Kd.S_nil _ _ _ _ _)), by (with_reducible repeat (first | apply Kd.V_alloc | apply Kd.V_drewN | apply Kd.V_drew)); exact Kd.V_mono (zgV (Kd.V_mono HO_130006.out (fun k_ hk => (⟨hk, hk.2.2⟩ : _ ∧ k_ ≠ gb130)))) (fun _ hk => hk.1.1), mZ⟩
  replace c9 := Bool.eq_false_iff.mpr c9
  subst c9
  rw [if_neg (show ¬ (false = true) by decide)] at H
  have HC13 := zM H
  clear H
  go_upto_if 14 with (fail)
  go_cut [14] (fun v14 wc => ∃ (kq : Nat) (x14_12 : Bool), v14 = .bool x14_12 ∧ Aside0 (pred_bare.j1 kq a0_0 x14_12 a0_0 a0_1 a0_2 a0_3 a0_4 l0_5 l0_6 = some (r1, r2, r3, r4, r5, r6, r7)) ∧ Aside0 (kq ≤ kj1) ∧ Aside0 (Kd.V Kd.string 9 wc w.heap.size (fun k_ => ((P0_5_ k_ ∨ P0_6_ k_) ∨ w.heap.size ≤ k_) ∧ k_ ≠ gb129 ∧ k_ ≠ gb130) (.slice A0_5 l0_5.length c0_5) l0_5) ∧ Aside0 (Kd.V k25 25 wc w.heap.size (fun k_ => ((P0_5_ k_ ∨ P0_6_ k_) ∨ w.heap.size ≤ k_) ∧ k_ ≠ gb129 ∧ k_ ≠ gb130) (.slice A0_6 l0_6.length c0_6) l0_6) ∧ Aside0 (wc.heap[gb129]? = some (.cells #[.int .i64 a0_0, .string a0_1, .int .i64 a0_2, .int .i64 a0_3, .string a0_4, (.slice A0_5 l0_5.length c0_5), (.slice A0_6 l0_6.length c0_6)] 25 (0, 0))) ∧ Aside0 (wc.heap[gb130]? = some (.cells #[.int .i64 0, .string (⟨#[]⟩ : ByteArray), .int .i64 0, .int .i64 0, .string (⟨#[]⟩ : ByteArray), (.slice none 0 0), (.slice none 0 0)] 25 (0, 0))) ∧ Aside0 (Below w.heap.size w wc))
  case first =>
   have H := HC13.out
   clear HC13
   by_cases c14 : a0_0 = 4
   ·rw [if_pos c14] at H
    have c14b0 : (a0_0 == 4) = true := beq_iff_eq.mpr c14
    have c14b1 : (a0_0 != 4) = false := bne_eq_false_iff_eq.mpr c14
    clear c14
    (first | rw [c14b0] | rw [c14b1] | (simp only [i64_w, i32_w]; rw [c14b0]) | skip)
    have H' := Aside0.mk H
    clear H
    go_wp2
    go_meet
    case rel => exact ⟨_, ((a0_0 == 4)), ya, H', ⟨by have := HJ1.out; first | omega | exact Nat.le_refl _⟩, ⟨mV HO_130005.out⟩, ⟨mV HO_130006.out⟩, ⟨mK BK129.out⟩, ⟨mK BK130.out⟩, ⟨mZ⟩⟩
   rw [if_neg c14] at H
   have c14b0 : (a0_0 == 4) = false := beq_eq_false_iff_ne.mpr c14
   have c14b1 : (a0_0 != 4) = true := bne_iff_ne.mpr c14
   (first | rw [c14b0] | rw [c14b1] | (simp only [i64_w, i32_w]; rw [c14b0]) | skip)
   have H' := Aside0.mk H
   clear H
   go_wp2
   go_meet
   case rel => exact ⟨_, ((a0_0 == 5)), ya, H', ⟨by have := HJ1.out; first | omega | exact Nat.le_refl _⟩, ⟨mV HO_130005.out⟩, ⟨mV HO_130006.out⟩, ⟨mK BK129.out⟩, ⟨mK BK130.out⟩, ⟨mZ⟩⟩
  clear HC13
  try clear c7
  try clear c7b0
  try clear c7b1
  try clear c8
  try clear c8b0
  try clear c8b1
  try clear c9
  try clear c14
  try clear c14b0
  try clear c14b1
  try clear hcz11_0
  try clear hcz11_1
  try clear hcz11_2
  try clear hcz11_3
  try clear hcz11_4
  try clear hcz11_5
  try clear hcz11_6
  try clear hcz12_0
  try clear hcz12_1
  try clear hcz12_2
  try clear hcz12_3
  try clear hcz12_4
  try clear hcz12_5
  try clear hcz12_6
  try clear hcz6_0
  try clear hcz6_1
  try clear hcz6_2
  try clear hcz6_3
  try clear hcz6_4
  try clear hcz6_5
  try clear hcz6_6
  try clear hfz11_0
  try clear hfz11_1
  try clear hfz11_2
  try clear hfz11_3
  try clear hfz11_4
  try clear hfz11_5
  try clear hfz11_6
  try clear hfz12_0
  try clear hfz12_1
  try clear hfz12_2
  try clear hfz12_3
  try clear hfz12_4
  try clear hfz12_5
  try clear hfz12_6
  try clear hfz6_0
  try clear hfz6_1
  try clear hfz6_2
  try clear hfz6_3
  try clear hfz6_4
  try clear hfz6_5
  try clear hfz6_6
  obtain ⟨kq, x14_12, rfl, HA, HJ12, HO_130005, HO_130006, BK129, BK130, HB⟩ := hcut
  cases kq with
  | zero => exact absurd HA.out (by simp [pred_bare.j1])
  | succ kj12 =>
   have H := HA.out
   clear HA
   simp only [pred_bare.j1] at H
   by_cases c15 : x14_12 = true
   ·subst c15
    rw [if_pos rfl] at H
    simp only [Option.some.injEq, Prod.mk.injEq] at H
    obtain ⟨rfl, rfl, rfl, rfl, rfl, rfl, rfl⟩ := H
    have hnb16 := NB129_130.out
    have hnc16 := NB130_129.out
    obtain ⟨hcz17_0, hcz17_1, hcz17_2, hcz17_3, hcz17_4, hcz17_5, hcz17_6, hfz17_0, hfz17_1, hfz17_2, hfz17_3, hfz17_4, hfz17_5, hfz17_6⟩ := cells_7 BK129.out
    obtain ⟨hcz18_0, hcz18_1, hcz18_2, hcz18_3, hcz18_4, hcz18_5, hcz18_6, hfz18_0, hfz18_1, hfz18_2, hfz18_3, hfz18_4, hfz18_5, hfz18_6⟩ := cells_7 BK130.out
    go_wp2
    refine bodyPost_ret (results_cell_row rfl _ _ gb130 25 #[.int .i64 a0_0, .string a0_1, .int .i64 a0_2, .int .i64 0, .string (⟨#[]⟩ : ByteArray), .slice none 0 0, .slice none 0 0] (0, 0) _ rfl (by (with_reducible repeat (first | refine blk_drewN ?_ _ | refine blk_drew ?_ | refine blk_alloc ?_ _)); apply puts_7; (with_reducible repeat (first | refine blk_drewN ?_ _ | refine blk_drew ?_ | refine blk_alloc ?_ _)); exact BK130.out) Try.underlying25 rfl (by kernel_rfl)) rfl ?_
    exact ⟨_, _, by first | rfl | (simp [errW_none, errW_some] <;> rfl) | (simp [*, errW_none, errW_some] <;> rfl), by first | exact Kd.V_nil _ _ _ _ _ | (exact (by first | exact Kd.R_nil _ _ _ _ _ | exact Kd.N_nil _ _ _ _ _ | exact Kd.V_nil _ _ _ _ _ | exact Kd.Q_nil _ _ _ _ _ | exact Kd.S_nil _ _ _ _ _)), by first | exact Kd.V_nil _ _ _ _ _ | (exact (by first | exact Kd.R_nil _ _ _ _ _ | exact Kd.N_nil _ _ _ _ _ | exact Kd.V_nil _ _ _ _ _ | exact Kd.Q_nil _ _ _ _ _ | exact Kd.S_nil _ _ _ _ _)), mZ⟩
   replace c15 := Bool.eq_false_iff.mpr c15
   subst c15
   rw [if_neg (show ¬ (false = true) by decide)] at H
   have HC19 := zM H
   clear H
   go_upto_if 24 with (fail)
   go_cut [24] (fun v24 wc => ∃ (kq : Nat) (x24_18 : Bool), v24 = .bool x24_18 ∧ Aside0 (pred_bare.j2 kq a0_0 x24_18 a0_0 a0_1 a0_2 a0_3 a0_4 l0_5 l0_6 = some (r1, r2, r3, r4, r5, r6, r7)) ∧ Aside0 (kq ≤ kj12) ∧ Aside0 (Kd.V Kd.string 9 wc w.heap.size (fun k_ => ((P0_5_ k_ ∨ P0_6_ k_) ∨ w.heap.size ≤ k_) ∧ k_ ≠ gb129 ∧ k_ ≠ gb130) (.slice A0_5 l0_5.length c0_5) l0_5) ∧ Aside0 (Kd.V k25 25 wc w.heap.size (fun k_ => ((P0_5_ k_ ∨ P0_6_ k_) ∨ w.heap.size ≤ k_) ∧ k_ ≠ gb129 ∧ k_ ≠ gb130) (.slice A0_6 l0_6.length c0_6) l0_6) ∧ Aside0 (wc.heap[gb129]? = some (.cells #[.int .i64 a0_0, .string a0_1, .int .i64 a0_2, .int .i64 a0_3, .string a0_4, (.slice A0_5 l0_5.length c0_5), (.slice A0_6 l0_6.length c0_6)] 25 (0, 0))) ∧ Aside0 (wc.heap[gb130]? = some (.cells #[.int .i64 0, .string (⟨#[]⟩ : ByteArray), .int .i64 0, .int .i64 0, .string (⟨#[]⟩ : ByteArray), (.slice none 0 0), (.slice none 0 0)] 25 (0, 0))) ∧ Aside0 (Below w.heap.size w wc))
   case first =>
    have H := HC19.out
    clear HC19
    by_cases c20 : a0_0 = 6
    ·rw [if_pos c20] at H
     have c20b0 : (a0_0 == 6) = true := beq_iff_eq.mpr c20
     have c20b1 : (a0_0 != 6) = false := bne_eq_false_iff_eq.mpr c20
     clear c20
     (first | rw [c20b0] | rw [c20b1] | (simp only [i64_w, i32_w]; rw [c20b0]) | skip)
     have H' := Aside0.mk H
     clear H
     go_wp2
     go_meet
     case rel => exact ⟨_, ((a0_0 == 6)), ya, H', ⟨by have := HJ1.out; have := HJ12.out; first | omega | exact Nat.le_refl _⟩, ⟨mV HO_130005.out⟩, ⟨mV HO_130006.out⟩, ⟨mK BK129.out⟩, ⟨mK BK130.out⟩, ⟨mZ⟩⟩
    rw [if_neg c20] at H
    have c20b0 : (a0_0 == 6) = false := beq_eq_false_iff_ne.mpr c20
    have c20b1 : (a0_0 != 6) = true := bne_iff_ne.mpr c20
    (first | rw [c20b0] | rw [c20b1] | (simp only [i64_w, i32_w]; rw [c20b0]) | skip)
    have H' := Aside0.mk H
    clear H
    go_wp2
    go_meet
    case rel => exact ⟨_, ((a0_0 == 8)), ya, H', ⟨by have := HJ1.out; have := HJ12.out; first | omega | exact Nat.le_refl _⟩, ⟨mV HO_130005.out⟩, ⟨mV HO_130006.out⟩, ⟨mK BK129.out⟩, ⟨mK BK130.out⟩, ⟨mZ⟩⟩
   clear HC19
   try clear c7
   try clear c7b0
   try clear c7b1
   try clear c8
   try clear c8b0
   try clear c8b1
   try clear c9
   try clear c14
   try clear c14b0
   try clear c14b1
   try clear c15
   try clear c20
   try clear c20b0
   try clear c20b1
   try clear hcz11_0
   try clear hcz11_1
   try clear hcz11_2
   try clear hcz11_3
   try clear hcz11_4
   try clear hcz11_5
   try clear hcz11_6
   try clear hcz12_0
   try clear hcz12_1
   try clear hcz12_2
   try clear hcz12_3
   try clear hcz12_4
   try clear hcz12_5
   try clear hcz12_6
   try clear hcz17_0
   try clear hcz17_1
   try clear hcz17_2
   try clear hcz17_3
   try clear hcz17_4
   try clear hcz17_5
   try clear hcz17_6
   try clear hcz18_0
   try clear hcz18_1
   try clear hcz18_2
   try clear hcz18_3
   try clear hcz18_4
   try clear hcz18_5
   try clear hcz18_6
   try clear hcz6_0
   try clear hcz6_1
   try clear hcz6_2
   try clear hcz6_3
   try clear hcz6_4
   try clear hcz6_5
   try clear hcz6_6
   try clear hfz11_0
   try clear hfz11_1
   try clear hfz11_2
   try clear hfz11_3
   try clear hfz11_4
   try clear hfz11_5
   try clear hfz11_6
   try clear hfz12_0
   try clear hfz12_1
   try clear hfz12_2
   try clear hfz12_3
   try clear hfz12_4
   try clear hfz12_5
   try clear hfz12_6
   try clear hfz17_0
   try clear hfz17_1
   try clear hfz17_2
   try clear hfz17_3
   try clear hfz17_4
   try clear hfz17_5
   try clear hfz17_6
   try clear hfz18_0
   try clear hfz18_1
   try clear hfz18_2
   try clear hfz18_3
   try clear hfz18_4
   try clear hfz18_5
   try clear hfz18_6
   try clear hfz6_0
   try clear hfz6_1
   try clear hfz6_2
   try clear hfz6_3
   try clear hfz6_4
   try clear hfz6_5
   try clear hfz6_6
   obtain ⟨kq, x24_18, rfl, HA, HJ18, HO_130005, HO_130006, BK129, BK130, HB⟩ := hcut
   cases kq with
   | zero => exact absurd HA.out (by simp [pred_bare.j2])
   | succ kj18 =>
    have H := HA.out
    clear HA
    simp only [pred_bare.j2] at H
    by_cases c21 : x24_18 = true
    ·subst c21
     rw [if_pos rfl] at H
     simp only [Option.some.injEq, Prod.mk.injEq] at H
     obtain ⟨rfl, rfl, rfl, rfl, rfl, rfl, rfl⟩ := H
     have hnb22 := NB129_130.out
     have hnc22 := NB130_129.out
     obtain ⟨hcz23_0, hcz23_1, hcz23_2, hcz23_3, hcz23_4, hcz23_5, hcz23_6, hfz23_0, hfz23_1, hfz23_2, hfz23_3, hfz23_4, hfz23_5, hfz23_6⟩ := cells_7 BK129.out
     obtain ⟨hcz24_0, hcz24_1, hcz24_2, hcz24_3, hcz24_4, hcz24_5, hcz24_6, hfz24_0, hfz24_1, hfz24_2, hfz24_3, hfz24_4, hfz24_5, hfz24_6⟩ := cells_7 BK130.out
     go_wp2
     refine bodyPost_ret (results_cell_row rfl _ _ gb130 25 #[.int .i64 a0_0, .string a0_1, .int .i64 0, .int .i64 0, .string a0_4, .slice none 0 0, .slice none 0 0] (0, 0) _ rfl (by (with_reducible repeat (first | refine blk_drewN ?_ _ | refine blk_drew ?_ | refine blk_alloc ?_ _)); apply puts_7; (with_reducible repeat (first | refine blk_drewN ?_ _ | refine blk_drew ?_ | refine blk_alloc ?_ _)); exact BK130.out) Try.underlying25 rfl (by kernel_rfl)) rfl ?_
     exact ⟨_, _, by first | rfl | (simp [errW_none, errW_some] <;> rfl) | (simp [*, errW_none, errW_some] <;> rfl), by first | exact Kd.V_nil _ _ _ _ _ | (exact (by first | exact Kd.R_nil _ _ _ _ _ | exact Kd.N_nil _ _ _ _ _ | exact Kd.V_nil _ _ _ _ _ | exact Kd.Q_nil _ _ _ _ _ | exact Kd.S_nil _ _ _ _ _)), by first | exact Kd.V_nil _ _ _ _ _ | (exact (by first | exact Kd.R_nil _ _ _ _ _ | exact Kd.N_nil _ _ _ _ _ | exact Kd.V_nil _ _ _ _ _ | exact Kd.Q_nil _ _ _ _ _ | exact Kd.S_nil _ _ _ _ _)), mZ⟩
    replace c21 := Bool.eq_false_iff.mpr c21
    subst c21
    rw [if_neg (show ¬ (false = true) by decide)] at H
    by_cases c25 : a0_0 = 7
    ·rw [if_pos c25] at H
     have c25b0 : (a0_0 == 7) = true := beq_iff_eq.mpr c25
     have c25b1 : (a0_0 != 7) = false := bne_eq_false_iff_eq.mpr c25
     clear c25
     simp only [Option.some.injEq, Prod.mk.injEq] at H
     obtain ⟨rfl, rfl, rfl, rfl, rfl, rfl, rfl⟩ := H
     have hnb26 := NB129_130.out
     have hnc26 := NB130_129.out
     obtain ⟨hcz27_0, hcz27_1, hcz27_2, hcz27_3, hcz27_4, hcz27_5, hcz27_6, hfz27_0, hfz27_1, hfz27_2, hfz27_3, hfz27_4, hfz27_5, hfz27_6⟩ := cells_7 BK129.out
     obtain ⟨hcz28_0, hcz28_1, hcz28_2, hcz28_3, hcz28_4, hcz28_5, hcz28_6, hfz28_0, hfz28_1, hfz28_2, hfz28_3, hfz28_4, hfz28_5, hfz28_6⟩ := cells_7 BK130.out
     go_wp2
     refine bodyPost_ret (results_cell_row rfl _ _ gb130 25 #[.int .i64 a0_0, .string a0_1, .int .i64 0, .int .i64 0, .string (⟨#[]⟩ : ByteArray), .slice A0_5 l0_5.length c0_5, .slice none 0 0] (0, 0) _ rfl (by (with_reducible repeat (first | refine blk_drewN ?_ _ | refine blk_drew ?_ | refine blk_alloc ?_ _)); apply puts_7; (with_reducible repeat (first | refine blk_drewN ?_ _ | refine blk_drew ?_ | refine blk_alloc ?_ _)); exact BK130.out) Try.underlying25 rfl (by kernel_rfl)) rfl ?_
     exact ⟨_, _, by first | rfl | (simp [errW_none, errW_some] <;> rfl) | (simp [*, errW_none, errW_some] <;> rfl), by (with_reducible repeat (first | apply Kd.V_alloc | apply Kd.V_drewN | apply Kd.V_drew)); exact Kd.V_mono (zgV (Kd.V_mono HO_130005.out (fun k_ hk => (⟨hk, hk.2.2⟩ : _ ∧ k_ ≠ gb130)))) (fun _ hk => hk.1.1), by first | exact Kd.V_nil _ _ _ _ _ | (exact (by first | exact Kd.R_nil _ _ _ _ _ | exact Kd.N_nil _ _ _ _ _ | exact Kd.V_nil _ _ _ _ _ | exact Kd.Q_nil _ _ _ _ _ | exact Kd.S_nil _ _ _ _ _)), mZ⟩
    rw [if_neg c25] at H
    have c25b0 : (a0_0 == 7) = false := beq_eq_false_iff_ne.mpr c25
    have c25b1 : (a0_0 != 7) = true := bne_iff_ne.mpr c25
    by_cases c29 : a0_0 = 9
    ·rw [if_pos c29] at H
     have c29b0 : (a0_0 == 9) = true := beq_iff_eq.mpr c29
     have c29b1 : (a0_0 != 9) = false := bne_eq_false_iff_eq.mpr c29
     clear c29
     simp only [Option.some.injEq, Prod.mk.injEq] at H
     obtain ⟨rfl, rfl, rfl, rfl, rfl, rfl, rfl⟩ := H
     have hnb30 := NB129_130.out
     have hnc30 := NB130_129.out
     obtain ⟨hcz31_0, hcz31_1, hcz31_2, hcz31_3, hcz31_4, hcz31_5, hcz31_6, hfz31_0, hfz31_1, hfz31_2, hfz31_3, hfz31_4, hfz31_5, hfz31_6⟩ := cells_7 BK129.out
     obtain ⟨hcz32_0, hcz32_1, hcz32_2, hcz32_3, hcz32_4, hcz32_5, hcz32_6, hfz32_0, hfz32_1, hfz32_2, hfz32_3, hfz32_4, hfz32_5, hfz32_6⟩ := cells_7 BK130.out
     go_wp2
     refine bodyPost_ret (results_cell_row rfl _ _ gb130 25 #[.int .i64 a0_0, .string a0_1, .int .i64 0, .int .i64 0, .string (⟨#[]⟩ : ByteArray), .slice none 0 0, .slice none 0 0] (0, 0) _ rfl (by (with_reducible repeat (first | refine blk_drewN ?_ _ | refine blk_drew ?_ | refine blk_alloc ?_ _)); apply puts_7; (with_reducible repeat (first | refine blk_drewN ?_ _ | refine blk_drew ?_ | refine blk_alloc ?_ _)); exact BK130.out) Try.underlying25 rfl (by kernel_rfl)) rfl ?_
     exact ⟨_, _, by first | rfl | (simp [errW_none, errW_some] <;> rfl) | (simp [*, errW_none, errW_some] <;> rfl), by first | exact Kd.V_nil _ _ _ _ _ | (exact (by first | exact Kd.R_nil _ _ _ _ _ | exact Kd.N_nil _ _ _ _ _ | exact Kd.V_nil _ _ _ _ _ | exact Kd.Q_nil _ _ _ _ _ | exact Kd.S_nil _ _ _ _ _)), by first | exact Kd.V_nil _ _ _ _ _ | (exact (by first | exact Kd.R_nil _ _ _ _ _ | exact Kd.N_nil _ _ _ _ _ | exact Kd.V_nil _ _ _ _ _ | exact Kd.Q_nil _ _ _ _ _ | exact Kd.S_nil _ _ _ _ _)), mZ⟩
    rw [if_neg c29] at H
    have c29b0 : (a0_0 == 9) = false := beq_eq_false_iff_ne.mpr c29
    have c29b1 : (a0_0 != 9) = true := bne_iff_ne.mpr c29
    by_cases c33 : a0_0 = 10
    ·rw [if_pos c33] at H
     have c33b0 : (a0_0 == 10) = true := beq_iff_eq.mpr c33
     have c33b1 : (a0_0 != 10) = false := bne_eq_false_iff_eq.mpr c33
     clear c33
     simp only [Option.some.injEq, Prod.mk.injEq] at H
     obtain ⟨rfl, rfl, rfl, rfl, rfl, rfl, rfl⟩ := H
     have hnb34 := NB129_130.out
     have hnc34 := NB130_129.out
     obtain ⟨hcz35_0, hcz35_1, hcz35_2, hcz35_3, hcz35_4, hcz35_5, hcz35_6, hfz35_0, hfz35_1, hfz35_2, hfz35_3, hfz35_4, hfz35_5, hfz35_6⟩ := cells_7 BK129.out
     obtain ⟨hcz36_0, hcz36_1, hcz36_2, hcz36_3, hcz36_4, hcz36_5, hcz36_6, hfz36_0, hfz36_1, hfz36_2, hfz36_3, hfz36_4, hfz36_5, hfz36_6⟩ := cells_7 BK130.out
     go_wp2
     refine bodyPost_ret (results_cell_row rfl _ _ gb130 25 #[.int .i64 a0_0, .string (⟨#[]⟩ : ByteArray), .int .i64 a0_2, .int .i64 a0_3, .string (⟨#[]⟩ : ByteArray), .slice none 0 0, .slice none 0 0] (0, 0) _ rfl (by (with_reducible repeat (first | refine blk_drewN ?_ _ | refine blk_drew ?_ | refine blk_alloc ?_ _)); apply puts_7; (with_reducible repeat (first | refine blk_drewN ?_ _ | refine blk_drew ?_ | refine blk_alloc ?_ _)); exact BK130.out) Try.underlying25 rfl (by kernel_rfl)) rfl ?_
     exact ⟨_, _, by first | rfl | (simp [errW_none, errW_some] <;> rfl) | (simp [*, errW_none, errW_some] <;> rfl), by first | exact Kd.V_nil _ _ _ _ _ | (exact (by first | exact Kd.R_nil _ _ _ _ _ | exact Kd.N_nil _ _ _ _ _ | exact Kd.V_nil _ _ _ _ _ | exact Kd.Q_nil _ _ _ _ _ | exact Kd.S_nil _ _ _ _ _)), by first | exact Kd.V_nil _ _ _ _ _ | (exact (by first | exact Kd.R_nil _ _ _ _ _ | exact Kd.N_nil _ _ _ _ _ | exact Kd.V_nil _ _ _ _ _ | exact Kd.Q_nil _ _ _ _ _ | exact Kd.S_nil _ _ _ _ _)), mZ⟩
    rw [if_neg c33] at H
    have c33b0 : (a0_0 == 10) = false := beq_eq_false_iff_ne.mpr c33
    have c33b1 : (a0_0 != 10) = true := bne_iff_ne.mpr c33
    simp only [Option.some.injEq, Prod.mk.injEq] at H
    obtain ⟨rfl, rfl, rfl, rfl, rfl, rfl, rfl⟩ := H
    have hnb37 := NB130_129.out
    have hnc37 := NB129_130.out
    obtain ⟨hcz38_0, hcz38_1, hcz38_2, hcz38_3, hcz38_4, hcz38_5, hcz38_6, hfz38_0, hfz38_1, hfz38_2, hfz38_3, hfz38_4, hfz38_5, hfz38_6⟩ := cells_7 BK130.out
    go_wp2
    refine bodyPost_ret (results_cell_row rfl _ _ gb130 25 #[.int .i64 0, .string (⟨#[]⟩ : ByteArray), .int .i64 0, .int .i64 0, .string (⟨#[]⟩ : ByteArray), .slice none 0 0, .slice none 0 0] (0, 0) _ rfl (by (with_reducible repeat (first | refine blk_drewN ?_ _ | refine blk_drew ?_ | refine blk_alloc ?_ _)); apply puts_7; (with_reducible repeat (first | refine blk_drewN ?_ _ | refine blk_drew ?_ | refine blk_alloc ?_ _)); exact BK130.out) Try.underlying25 rfl (by kernel_rfl)) rfl ?_
    exact ⟨_, _, by first | rfl | (simp [errW_none, errW_some] <;> rfl) | (simp [*, errW_none, errW_some] <;> rfl), by first | exact Kd.V_nil _ _ _ _ _ | (exact (by first | exact Kd.R_nil _ _ _ _ _ | exact Kd.N_nil _ _ _ _ _ | exact Kd.V_nil _ _ _ _ _ | exact Kd.Q_nil _ _ _ _ _ | exact Kd.S_nil _ _ _ _ _)), by first | exact Kd.V_nil _ _ _ _ _ | (exact (by first | exact Kd.R_nil _ _ _ _ _ | exact Kd.N_nil _ _ _ _ _ | exact Kd.V_nil _ _ _ _ _ | exact Kd.Q_nil _ _ _ _ _ | exact Kd.S_nil _ _ _ _ _)), mZ⟩

end Go.Proofs.Ytalpcnomfebdiaa.QPredRules
