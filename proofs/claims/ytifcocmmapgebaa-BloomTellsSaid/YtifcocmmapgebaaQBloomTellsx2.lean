-- Written by a program of this session (wip/myprint.py): the machine's side of a law
import Derived.Test.YtifcocmmapgebaaQBloomTellsx0
import Derived.Test.YtifcocmmapgebaaQBloomTellsx1
namespace Go.Proofs.Ytifcocmmapgebaa.QBloomTells
open Go.RowKit Go.Proofs.YtifcocmmapgebaaW.PrintWords Go.Proofs.YtifcocmmapgebaaW.PrintLast Go.Proofs.YtifcocmmapgebaaW.PrintMore
attribute [local go_sem] max2_int min2_int max_two min_two max_three min_three max_four min_four   -- for this text's walks alone
set_option linter.unusedVariables false
set_option linter.unusedSimpArgs false

/-! ### bloom_Build: function 10 -/
mutual
def bloom_Build.j1 : Nat → List ByteArray → Int → Option (Int × List Int)
 | 0, _, _ => none
 | k + 1, x3, x119000 => if 0 ≤ (wrap64 (Int.tdiv x119000 8)) then (if (wrap64 (Int.tdiv x119000 8) : Int).toNat ≤ 281474976710656 then (bloom_Build.l1 k x3 (x3.length : Int) 0 x119000 (List.replicate (wrap64 (Int.tdiv x119000 8) : Int).toNat 0)) else (none)) else (none)
def bloom_Build.l1 : Nat → List ByteArray → Int → Int → Int → List Int → Option (Int × List Int)
 | 0, _, _, _, _, _ => none
 | k + 1, x36, x37, x38, x119000, x119001 => if x38 < x37 then (if 0 ≤ x38 then (if x38 < (x36.length : Int) then ((bloom_spots.f k (rdOf ByteArray.empty x36 x38) x119000).bind fun t123 => (bloom_Build.l2 k x36 x37 x38 t123 (t123.length : Int) 0 x119000 x119001)) else (none)) else (none)) else (some (x119000, x119001))
def bloom_Build.l2 : Nat → List ByteArray → Int → Int → List Int → Int → Int → Int → List Int → Option (Int × List Int)
 | 0, _, _, _, _, _, _, _, _ => none
 | k + 1, x36, x37, x38, x45, x46, x47, x119000, x119001 => if x47 < x46 then (if 0 ≤ x47 then (if x47 < (x45.length : Int) then (if 0 ≤ (IntKind.u64.wrap (Int.tdiv (rd x45 x47) 8)) then (if (IntKind.u64.wrap (Int.tdiv (rd x45 x47) 8)) < (x119001.length : Int) then (if 0 ≤ (Int.tmod (rd x45 x47) 8) then (bloom_Build.l2 k x36 x37 x38 x45 x46 (wrap64 (x47 + 1)) x119000 (x119001.set ((IntKind.u64.wrap (Int.tdiv (rd x45 x47) 8)) : Int).toNat (Go.bits .or .u8 (rd x119001 (IntKind.u64.wrap (Int.tdiv (rd x45 x47) 8))) (shl .u8 1 (Int.tmod (rd x45 x47) 8))))) else (none)) else (none)) else (none)) else (none)) else (none)) else (bloom_Build.l1 k x36 x37 (wrap64 (x38 + 1)) x119000 x119001)
def bloom_Build.l0 : Nat → List ByteArray → Int → Option (Int × List Int)
 | 0, _, _ => none
 | k + 1, x3, x119000 => if x119000 < 65536 then (if x119000 < (wrap64 (8 * (x3.length : Int))) then (bloom_Build.l0 k x3 (wrap64 (x119000 * 2))) else (bloom_Build.j1 k x3 x119000)) else (bloom_Build.j1 k x3 x119000)
end
def bloom_Build.f (k : Nat) (l0 : List ByteArray) : Option (Int × List Int) := (slices_Clone_string_string.f l0).bind fun t111 => ((slices_Sort_string_string.f t111).bind fun t114 => ((slices_Compact_string_string.f t114).bind fun t115 => (bloom_Build.l0 k t115 64)))
theorem bloom_Build.mono_l : ∀ k, (∀ y0 y1, LeO (bloom_Build.j1 k y0 y1) (bloom_Build.j1 (k + 1) y0 y1)) ∧ (∀ y0 y1 y2 y3 y4, LeO (bloom_Build.l1 k y0 y1 y2 y3 y4) (bloom_Build.l1 (k + 1) y0 y1 y2 y3 y4)) ∧ (∀ y0 y1 y2 y3 y4 y5 y6 y7, LeO (bloom_Build.l2 k y0 y1 y2 y3 y4 y5 y6 y7) (bloom_Build.l2 (k + 1) y0 y1 y2 y3 y4 y5 y6 y7)) ∧ (∀ y0 y1, LeO (bloom_Build.l0 k y0 y1) (bloom_Build.l0 (k + 1) y0 y1))
 | 0 => ⟨fun _ _ r h => by simp [bloom_Build.j1] at h, fun _ _ _ _ _ r h => by simp [bloom_Build.l1] at h, fun _ _ _ _ _ _ _ _ r h => by simp [bloom_Build.l2] at h, fun _ _ r h => by simp [bloom_Build.l0] at h⟩
 | k + 1 => by
  obtain ⟨ih0, ih1, ih2, ih3⟩ := bloom_Build.mono_l k
  refine ⟨?_, ?_, ?_, ?_⟩
  ·intro y0 y1
   unfold bloom_Build.j1
   repeat' first
   | (with_reducible exact ih0 _ _)
   | (with_reducible exact ih1 _ _ _ _ _)
   | (with_reducible exact ih2 _ _ _ _ _ _ _ _)
   | (with_reducible exact ih3 _ _)
   | (with_reducible exact bloom_spots.mono _ _ _)
   | (with_reducible exact LeO.refl _)
   | (with_reducible exact LeO.none _)
   | (with_reducible refine LeO.ite ?_ ?_)
   | (with_reducible refine LeO.bind ?_ (fun _ => ?_))
   | exact ih0 _ _
   | exact ih1 _ _ _ _ _
   | exact ih2 _ _ _ _ _ _ _ _
   | exact ih3 _ _
   | exact bloom_spots.mono _ _ _
   | exact LeO.none _
   | refine LeO.ite ?_ ?_
   | refine LeO.bind ?_ (fun _ => ?_)
  ·intro y0 y1 y2 y3 y4
   unfold bloom_Build.l1
   repeat' first
   | (with_reducible exact ih0 _ _)
   | (with_reducible exact ih1 _ _ _ _ _)
   | (with_reducible exact ih2 _ _ _ _ _ _ _ _)
   | (with_reducible exact ih3 _ _)
   | (with_reducible exact bloom_spots.mono _ _ _)
   | (with_reducible exact LeO.refl _)
   | (with_reducible exact LeO.none _)
   | (with_reducible refine LeO.ite ?_ ?_)
   | (with_reducible refine LeO.bind ?_ (fun _ => ?_))
   | exact ih0 _ _
   | exact ih1 _ _ _ _ _
   | exact ih2 _ _ _ _ _ _ _ _
   | exact ih3 _ _
   | exact bloom_spots.mono _ _ _
   | exact LeO.none _
   | refine LeO.ite ?_ ?_
   | refine LeO.bind ?_ (fun _ => ?_)
  ·intro y0 y1 y2 y3 y4 y5 y6 y7
   unfold bloom_Build.l2
   repeat' first
   | (with_reducible exact ih0 _ _)
   | (with_reducible exact ih1 _ _ _ _ _)
   | (with_reducible exact ih2 _ _ _ _ _ _ _ _)
   | (with_reducible exact ih3 _ _)
   | (with_reducible exact bloom_spots.mono _ _ _)
   | (with_reducible exact LeO.refl _)
   | (with_reducible exact LeO.none _)
   | (with_reducible refine LeO.ite ?_ ?_)
   | (with_reducible refine LeO.bind ?_ (fun _ => ?_))
   | exact ih0 _ _
   | exact ih1 _ _ _ _ _
   | exact ih2 _ _ _ _ _ _ _ _
   | exact ih3 _ _
   | exact bloom_spots.mono _ _ _
   | exact LeO.none _
   | refine LeO.ite ?_ ?_
   | refine LeO.bind ?_ (fun _ => ?_)
  ·intro y0 y1
   unfold bloom_Build.l0
   repeat' first
   | (with_reducible exact ih0 _ _)
   | (with_reducible exact ih1 _ _ _ _ _)
   | (with_reducible exact ih2 _ _ _ _ _ _ _ _)
   | (with_reducible exact ih3 _ _)
   | (with_reducible exact bloom_spots.mono _ _ _)
   | (with_reducible exact LeO.refl _)
   | (with_reducible exact LeO.none _)
   | (with_reducible refine LeO.ite ?_ ?_)
   | (with_reducible refine LeO.bind ?_ (fun _ => ?_))
   | exact ih0 _ _
   | exact ih1 _ _ _ _ _
   | exact ih2 _ _ _ _ _ _ _ _
   | exact ih3 _ _
   | exact bloom_spots.mono _ _ _
   | exact LeO.none _
   | refine LeO.ite ?_ ?_
   | refine LeO.bind ?_ (fun _ => ?_)
theorem bloom_Build.mono : ∀ a0 k, LeO (bloom_Build.f k a0) (bloom_Build.f (k + 1) a0) := by
 intro a0 k
 obtain ⟨ih0, ih1, ih2, ih3⟩ := bloom_Build.mono_l k
 unfold bloom_Build.f
 repeat' first
   | (with_reducible exact ih0 _ _)
   | (with_reducible exact ih1 _ _ _ _ _)
   | (with_reducible exact ih2 _ _ _ _ _ _ _ _)
   | (with_reducible exact ih3 _ _)
   | (with_reducible exact bloom_spots.mono _ _ _)
   | (with_reducible exact LeO.refl _)
   | (with_reducible exact LeO.none _)
   | (with_reducible refine LeO.ite ?_ ?_)
   | (with_reducible refine LeO.bind ?_ (fun _ => ?_))
   | exact ih0 _ _
   | exact ih1 _ _ _ _ _
   | exact ih2 _ _ _ _ _ _ _ _
   | exact ih3 _ _
   | exact bloom_spots.mono _ _ _
   | exact LeO.none _
   | refine LeO.ite ?_ ?_
   | refine LeO.bind ?_ (fun _ => ?_)
set_option maxHeartbeats 8000000 in
set_option maxRecDepth 100000 in
theorem bloom_Build.calls (k : Nat) (A0 : Option Addr) (c0 : Nat) (l0 : List ByteArray) (r1 : Int) (r2 : List Int) (w : World) (hr0 : Kd.C Kd.string w A0 l0.length l0) (hc0 : l0.length ≤ c0) (h : bloom_Build.f k l0 = some (r1, r2)) :
  Calls Try.prog 10 #[.slice A0 l0.length c0] w fun e w' => ∃ v1_ : Value, e = .returned (.agg #[.int .i64 r1, v1_]) ∧ Kd.R (Kd.int .u8) 5 w' w.heap.size (fun _ => True) v1_ r2 ∧ Below w.heap.size w w' := by
 have hu26 := Try.underlying26
 have HR0 := Aside0.mk hr0
 have HC0 := Aside0.mk hc0
 clear hr0 hc0
 have HB := Aside0.mk (Below.refl w.heap.size w)
 have H : ((slices_Clone_string_string.f l0).bind fun t111 => ((slices_Sort_string_string.f t111).bind fun t114 => ((slices_Compact_string_string.f t114).bind fun t115 => (bloom_Build.l0 k t115 64)))) = some (r1, r2) := h
 clear h
 replace H := Option.bind_eq_some_iff.mp H
 obtain ⟨t111, A20, H⟩ := H
 replace H : ((slices_Sort_string_string.f t111).bind fun t114 => ((slices_Compact_string_string.f t114).bind fun t115 => (bloom_Build.l0 k t115 64))) = some (r1, r2) := H
 have A2 := Aside0.mk A20
 clear A20
 replace H := Option.bind_eq_some_iff.mp H
 obtain ⟨t114, A30, H⟩ := H
 replace H : ((slices_Compact_string_string.f t114).bind fun t115 => (bloom_Build.l0 k t115 64)) = some (r1, r2) := H
 have A3 := Aside0.mk A30
 clear A30
 replace H := Option.bind_eq_some_iff.mp H
 obtain ⟨t115, A40, H⟩ := H
 replace H : (bloom_Build.l0 k t115 64) = some (r1, r2) := H
 have A4 := Aside0.mk A40
 clear A40
 have HC5 := Aside0.mk H
 clear H
 go_enter Try.func10, Try.ntmps10
 go_upto_block 0 with (first | ((with_reducible refine gate_dst (N := 2) rfl ?_); (try (refine gate_guard (by rfl) ?_; dsimp only)); refine box_event ?hg (N := 2) ?hd (cs := #[.int .i64 0, .slice none 0 0]) (t := 26) ?hr ?_; (case hd => rfl); (case hg => rfl); (case hr => first | (go_simp; done) | (go_simp; rfl)); intro gb110 hg w6 hbox hb; have n0_ := Aside0.mk (below_step (mB HB.out) hb); have n1_ := Aside0.mk (hbox); have n2_ := Aside0.mk ((by rw [hg]; exact (below_size (mB HB.out)) : w.heap.size ≤ gb110)); have n3_ := n2_; clear HB; have HB := n0_; have BK110 := n1_; have GW110 := n2_; have GE110 := n3_; clear n0_ n1_ n2_ n3_; clear hb hbox hg) | ((with_reducible refine gate_callee (f := 23) rfl ?_); refine goesL_ (some 10) rfl rfl Try.func23 (by kernel_rfl) rfl #[.slice A0 l0.length c0] rfl (by (try simp only [List.map_toArray, List.map_cons, List.map_nil]); first | done | rfl | (simp only [List.length_drop, List.length_take]; rfl)) ?_; (with_reducible refine (slices_Clone_string_string.calls _ _ l0 t111 _ ?side1 ?side2 A2.out).mono ?_); (case side1 => repeat (first | exact (Kd.C_below HR0.out HB.out) | (with_reducible refine Kd.C_alloc ?_ _) | (with_reducible refine Kd.C_drewN ?_ _) | (with_reducible refine Kd.C_drew ?_))); (case side2 => first | exact HC0.out | exact Kd.V_mono HC0.out (fun k_ hk_ => by grind)); rintro e w7 ⟨v112, rfl, ho0, hb⟩; refine ⟨_, rfl, ?_⟩; have n0_ := Aside0.mk (Kd.R_lower ho0 (below_size mZ)); have n1_ := Aside0.mk (blk_below (mK BK110.out) hb); have n2_ := Aside0.mk (below_step mZ hb); clear BK110; clear HB; have HO113 := n0_; have BK110 := n1_; have HB := n2_; clear n0_ n1_ n2_; (try clear hb); (try clear hb2); (try clear hk); (try clear hi); (try clear ho0); obtain ⟨Ao8, co8, eo8⟩ := Kd.R_slice HO113.out; subst eo8) | ((with_reducible refine gate_callee (f := 24) rfl ?_); refine goesL_ (some 12) rfl rfl Try.func24 (by kernel_rfl) rfl #[.slice Ao8 t111.length co8] rfl (by (try simp only [List.map_toArray, List.map_cons, List.map_nil]); first | done | rfl | (simp only [List.length_drop, List.length_take]; rfl)) ?_; (with_reducible refine (slices_Sort_string_string.calls (fun k_ => some k_ = (.slice Ao8 t111.length co8 : Value).ownBlock) (.slice Ao8 t111.length co8) t111 t114 w _ ?side1 ?side2 A3.out).mono ?_); (case side1 => repeat (first | (with_reducible first | exact HB.out | apply below_alloc | apply pw_below_drewN | apply below_drew1 | refine below_set ?_ GE110.out) | exact HB.out)); (case side2 => exact Kd.R_tight rfl HO113.out); rintro e w9 ⟨rfl, hy0, hb, hkp⟩; refine ⟨_, rfl, ?_⟩; have n0_ := Aside0.mk (blk_kept (mK BK110.out) hkp (fun hs_ => (fun e_ => (Kd.R_ne HO113.out BK110.out (by decide)) e_) hs_)); have n1_ := Aside0.mk (Kd.R_reok rfl hy0 (fun k_ e_ => HO113.out.1 k_ e_)); have n2_ := Aside0.mk (hb); clear BK110; clear HO113; clear HB; have BK110 := n0_; have HO113 := n1_; have HB := n2_; clear n0_ n1_ n2_; (try clear hb); (try clear hkp); (try clear hy0)) | ((with_reducible refine gate_callee (f := 25) rfl ?_); refine goesL_ (some 14) rfl rfl Try.func25 (by kernel_rfl) rfl #[.slice Ao8 t111.length co8] rfl (by (try simp only [List.map_toArray, List.map_cons, List.map_nil]); first | done | rfl | (simp only [List.length_drop, List.length_take]; rfl)) ?_; (with_reducible refine (slices_Compact_string_string.calls (fun k_ => some k_ = (.slice Ao8 t111.length co8 : Value).ownBlock) (.slice Ao8 t111.length co8) t114 t115 w _ ?side1 ?side2 A4.out).mono ?_); (case side1 => repeat (first | (with_reducible first | exact HB.out | apply below_alloc | apply pw_below_drewN | apply below_drew1 | refine below_set ?_ GE110.out) | exact HB.out)); (case side2 => exact Kd.R_tight rfl HO113.out); rintro e w10 ⟨v116, rfl, ho0, hb, hkp⟩; refine ⟨_, rfl, ?_⟩; have n0_ := Aside0.mk (blk_kept (mK BK110.out) hkp (fun hs_ => (fun e_ => (Kd.R_ne HO113.out BK110.out (by decide)) e_) hs_)); have n1_ := Aside0.mk (Kd.R_mono (ok' := fun k_ => True) ho0 (fun k_ hk_ => trivial)); have n2_ := Aside0.mk (hb); clear BK110; clear HB; clear HO113; have BK110 := n0_; have HO117 := n1_; have HB := n2_; clear n0_ n1_ n2_; (try clear hb); (try clear hkp); (try clear ho0)) | ((with_reducible refine gate_dst (N := 4) rfl ?_); (try (refine gate_guard (by rfl) ?_; dsimp only)); refine box_event ?hg (N := 4) ?hd (cs := #[.int .i64 0, .slice none 0 0]) (t := 26) ?hr ?_; (case hd => rfl); (case hg => rfl); (case hr => first | (go_simp; done) | (go_simp; rfl)); intro gb118 hg w11 hbox hb; have n0_ := Aside0.mk (Kd.R_below (mR HO117.out) hb); have n1_ := Aside0.mk (blk_below (mK BK110.out) hb); have n2_ := Aside0.mk (below_step mZ hb); have n3_ := Aside0.mk (hbox); have n4_ := Aside0.mk ((by rw [hg]; exact (below_size mZ) : w.heap.size ≤ gb118)); have n5_ := n4_; have n6_ := Aside0.mk ((by rw [hg]; exact Nat.ne_of_lt (blk_lt (mK BK110.out)) : gb110 ≠ gb118)); have n7_ := Aside0.mk ((by rw [hg]; exact Nat.ne_of_gt (blk_lt (mK BK110.out)) : gb118 ≠ gb110)); clear HO117; clear BK110; clear HB; have HO117 := n0_; have BK110 := n1_; have HB := n2_; have BK118 := n3_; have GW118 := n4_; have GE118 := n5_; have NB110_118 := n6_; have NB118_110 := n7_; clear n0_ n1_ n2_ n3_ n4_ n5_ n6_ n7_; clear hb hbox hg; have hnb12 := NB118_110.out; have hnc12 := NB110_118.out; obtain ⟨hcz13_0, hcz13_1, hfz13_0, hfz13_1⟩ := cells_2 BK118.out))
 (try simp only [Act.put, List.setIfInBounds_toArray, List.set_cons_zero, List.set_cons_succ])
 go_cut [] (fun wc => ∃ (kq : Nat) (x119000_4 : Int), Aside0 (bloom_Build.j1 kq t115 x119000_4 = some (r1, r2)) ∧ Aside0 (kq ≤ k) ∧ Aside0 (Kd.R Kd.string 9 wc w.heap.size (fun _ => True) v116 t115) ∧ Aside0 (wc.heap[gb110]? = some (.cells #[.int .i64 0, (.slice none 0 0)] 26 (0, 0))) ∧ Aside0 (wc.heap[gb118]? = some (.cells #[.int .i64 x119000_4, (.slice none 0 0)] 26 (0, 0))) ∧ Aside0 (Below w.heap.size w wc))
 case first =>
  have H := HC5.out
  clear HC5
  have H' := Aside0.mk H
  clear H
  go_wp2
  go_loopg [] k (fun kq w' => ∃ (x119000_1 : Int), Aside0 (bloom_Build.l0 kq t115 x119000_1 = some (r1, r2)) ∧ Aside0 (kq ≤ k) ∧ Aside0 (Kd.R Kd.string 9 w' w.heap.size (fun _ => True) v116 t115) ∧ Aside0 (w'.heap[gb110]? = some (.cells #[.int .i64 0, (.slice none 0 0)] 26 (0, 0))) ∧ Aside0 (w'.heap[gb118]? = some (.cells #[.int .i64 x119000_1, (.slice none 0 0)] 26 (0, 0))) ∧ Aside0 (Below w.heap.size w w'))
  case atStart => exact ⟨(64), H', ⟨Nat.le_refl _⟩, ⟨by (with_reducible repeat (first | apply Kd.R_alloc | apply Kd.R_drewN | apply Kd.R_drew)); exact Kd.R_mono (Kd.R_far (p := ⟨gb118, 1, none⟩) (Kd.R_far (p := ⟨gb118, 0, none⟩) (Kd.R_types HO117.out BK118.out (by decide)) (fun _ hk => hk.2) (.int .i64 64)) (fun _ hk => hk.2) (.slice none 0 0)) (fun _ hk => trivial)⟩, ⟨by (with_reducible repeat (first | refine blk_drewN ?_ _ | refine blk_drew ?_ | refine blk_alloc ?_ _)); refine blk_far ?_ NB110_118.out _; refine blk_far ?_ NB110_118.out _; (with_reducible repeat (first | refine blk_drewN ?_ _ | refine blk_drew ?_ | refine blk_alloc ?_ _)); exact BK110.out⟩, ⟨by (with_reducible repeat (first | refine blk_drewN ?_ _ | refine blk_drew ?_ | refine blk_alloc ?_ _)); apply puts_2; (with_reducible repeat (first | refine blk_drewN ?_ _ | refine blk_drew ?_ | refine blk_alloc ?_ _)); exact BK118.out⟩, ⟨mZ⟩⟩
  case round =>
   clear H'
   try clear hcz13_0
   try clear hcz13_1
   try clear hfz13_0
   try clear hfz13_1
   try clear BK110
   try clear BK118
   obtain ⟨x119000_1, HA, HK1, HO_3, BK110, BK118, HB⟩ := hrel
   cases gk with
   | zero => exact absurd HA.out (by simp [bloom_Build.l0])
   | succ k1 =>
    have H := HA.out
    clear HA
    simp only [bloom_Build.l0] at H
    by_cases c14 : x119000_1 < 65536
    ·rw [if_pos c14] at H
     have c14b0 : decide (x119000_1 < 65536) = true := decide_eq_true c14
     clear c14
     (first | rw [c14b0] | rw [c14b1] | (simp only [i64_w, i32_w]; rw [c14b0]) | skip)
     by_cases c15 : x119000_1 < (wrap64 (8 * (t115.length : Int)))
     ·rw [if_pos c15] at H
      have c15b0 : decide (x119000_1 < (wrap64 (8 * (t115.length : Int)))) = true := decide_eq_true c15
      clear c15
      have H' := Aside0.mk H
      clear H
      have hnb16 := NB118_110.out
      have hnc16 := NB110_118.out
      obtain ⟨hcz17_0, hcz17_1, hfz17_0, hfz17_1⟩ := cells_2 BK118.out
      obtain ⟨Ao18, co18, eo18⟩ := Kd.R_slice HO_3.out
      subst eo18
      go_wp2
      go_roundg k1
      case measure => have := HK1.out; omega
      case rel => exact ⟨(wrap64 (x119000_1 * 2)), H', ⟨by have := HK1.out; omega⟩, ⟨by (with_reducible repeat (first | apply Kd.R_alloc | apply Kd.R_drewN | apply Kd.R_drew)); exact Kd.R_mono (Kd.R_far (p := ⟨gb118, 0, none⟩) (Kd.R_types HO_3.out BK118.out (by decide)) (fun _ hk => hk.2) (.int .i64 (wrap64 (x119000_1 * 2)))) (fun _ hk => trivial)⟩, ⟨by (with_reducible repeat (first | refine blk_drewN ?_ _ | refine blk_drew ?_ | refine blk_alloc ?_ _)); refine blk_far ?_ NB110_118.out _; (with_reducible repeat (first | refine blk_drewN ?_ _ | refine blk_drew ?_ | refine blk_alloc ?_ _)); exact BK110.out⟩, ⟨by (with_reducible repeat (first | refine blk_drewN ?_ _ | refine blk_drew ?_ | refine blk_alloc ?_ _)); refine blk_put (cs := #[.int .i64 x119000_1, .slice none 0 0]) ?_ 0 _ rfl; (with_reducible repeat (first | refine blk_drewN ?_ _ | refine blk_drew ?_ | refine blk_alloc ?_ _)); exact BK118.out⟩, ⟨mZ⟩⟩
     ·rw [if_neg c15] at H
      have c15b0 : decide (x119000_1 < (wrap64 (8 * (t115.length : Int)))) = false := decide_eq_false c15
      clear c15
      have H' := Aside0.mk H
      clear H
      have hnb19 := NB118_110.out
      have hnc19 := NB110_118.out
      obtain ⟨hcz20_0, hcz20_1, hfz20_0, hfz20_1⟩ := cells_2 BK118.out
      obtain ⟨Ao21, co21, eo21⟩ := Kd.R_slice HO_3.out
      subst eo21
      go_wp2
      go_meet
      case rel => exact ⟨_, (x119000_1), H', ⟨by have := HK1.out; first | omega | exact Nat.le_refl _⟩, ⟨mR HO_3.out⟩, ⟨mK BK110.out⟩, ⟨mK BK118.out⟩, ⟨mZ⟩⟩
    ·rw [if_neg c14] at H
     have c14b0 : decide (x119000_1 < 65536) = false := decide_eq_false c14
     clear c14
     (first | rw [c14b0] | rw [c14b1] | (simp only [i64_w, i32_w]; rw [c14b0]) | skip)
     have H' := Aside0.mk H
     clear H
     have hnb22 := NB118_110.out
     have hnc22 := NB110_118.out
     obtain ⟨hcz23_0, hcz23_1, hfz23_0, hfz23_1⟩ := cells_2 BK118.out
     go_wp2
     go_meet
     case rel => exact ⟨_, (x119000_1), H', ⟨by have := HK1.out; first | omega | exact Nat.le_refl _⟩, ⟨mR HO_3.out⟩, ⟨mK BK110.out⟩, ⟨mK BK118.out⟩, ⟨mZ⟩⟩
 case rest =>
  clear HC5
  try clear c14
  try clear c14b0
  try clear c14b1
  try clear c15
  try clear c15b0
  try clear hcz13_0
  try clear hcz13_1
  try clear hcz17_0
  try clear hcz17_1
  try clear hcz20_0
  try clear hcz20_1
  try clear hcz23_0
  try clear hcz23_1
  try clear hfz13_0
  try clear hfz13_1
  try clear hfz17_0
  try clear hfz17_1
  try clear hfz20_0
  try clear hfz20_1
  try clear hfz23_0
  try clear hfz23_1
  obtain ⟨kq, x119000_4, HA, HJ4, HO_3, BK110, BK118, HB⟩ := hcut
  cases kq with
  | zero => exact absurd HA.out (by simp [bloom_Build.j1])
  | succ kj4 =>
   have H := HA.out
   clear HA
   simp only [bloom_Build.j1] at H
   obtain ⟨ji24, hji24⟩ : ∃ j_ : Int, (wrap64 (Int.tdiv x119000_4 8)) = j_ := ⟨_, rfl⟩
   replace H : (if 0 ≤ (ji24) then (if (ji24 : Int).toNat ≤ 281474976710656 then (bloom_Build.l1 kj4 t115 (t115.length : Int) 0 x119000_4 (List.replicate (ji24 : Int).toNat 0)) else (none)) else (none)) = some (r1, r2) := by first | (rw [hji24] at H; exact H) | (simp only [hji24] at H ⊢; exact H)
   have hji24w : (IntKind.i64.wrap (Int.tdiv x119000_4 8)) = ji24 := (i64_w _).trans hji24
   by_cases c25 : 0 ≤ (ji24)
   ·rw [if_pos c25] at H
    have c25b0 := eq_true c25
    have c25b1 : decide (0 ≤ (ji24)) = true := decide_eq_true c25
    clear c25
    by_cases c26 : (ji24 : Int).toNat ≤ 281474976710656
    ·rw [if_pos c26] at H
     have c26b0 := eq_true c26
     have c26b1 : decide ((ji24 : Int).toNat ≤ 281474976710656) = true := decide_eq_true c26
     clear c26
     obtain ⟨y119, hy119⟩ : ∃ y_ : List Int, y_ = (List.replicate (ji24 : Int).toNat 0) := ⟨_, rfl⟩
     replace H : (bloom_Build.l1 kj4 t115 (t115.length : Int) 0 x119000_4 y119) = some (r1, r2) := by first | (rw [hy119]; with_reducible exact H) | (have H2_ := (Option.bind_some _ _).symm.trans H; rw [hy119]; with_reducible exact H2_) | (have H2_ := (Option.bind_some _ _).symm.trans H; with_reducible exact H2_) | with_reducible exact H | (rw [hy119]; exact H) | exact H
     have Ny119 := Aside0.mk hy119
     clear hy119
     have H' := Aside0.mk H
     clear H
     have hnb27 := NB118_110.out
     have hnc27 := NB110_118.out
     obtain ⟨hcz28_0, hcz28_1, hfz28_0, hfz28_1⟩ := cells_2 BK118.out
     go_wp2_with (first | ((with_reducible refine gate_dst (N := 34) rfl ?_); (try (refine gate_guard (by rfl) ?_; dsimp only)); refine Kd.R_make (Kd.int .u8) _ 5 rfl (N := 34) rfl 24 _ _ rfl ji24 rfl rfl Try.underlying24 (.int .u8 0) 1 info5 rfl (by decide) (by omega) 0 (ok := fun _ => True) (okp := fun _ => True) rfl (fun _ hk => hk) trivial (of_decide_eq_true (by first | (with_reducible assumption) | assumption)) (Nat.le_trans (Nat.mul_le_mul_right _ (of_decide_eq_true (by first | (with_reducible assumption) | assumption) : ji24.toNat ≤ 281474976710656)) (by omega)) (Below.refl _ _) (Nat.le_refl _) ?_; intro v120 w29 ho30 hb hg_ hnew_; clear hg_ hnew_; (first | rw [← Ny119.out] at ho30 | (simp only [Int.reduceToNat] at ho30; rw [← Ny119.out] at ho30)); have n0_ := Aside0.mk (Kd.R_below (mR HO_3.out) hb); have n1_ := Aside0.mk (Kd.R_lower ho30 (below_size mZ)); have n2_ := Aside0.mk (blk_below (mK BK110.out) hb); have n3_ := Aside0.mk (blk_below (mK BK118.out) hb); have n4_ := Aside0.mk (below_step mZ hb); clear HO_3; clear BK110; clear BK118; clear HB; have HO_3 := n0_; have HO121 := n1_; have BK110 := n2_; have BK118 := n3_; have HB := n4_; clear n0_ n1_ n2_ n3_ n4_; clear hb ho30; obtain ⟨Ao31, co31, eo31⟩ := Kd.R_slice HO121.out; subst eo31; obtain ⟨hcz32_0, hcz32_1, hfz32_0, hfz32_1⟩ := cells_2 BK118.out; obtain ⟨Ao33, co33, eo33⟩ := Kd.R_slice HO_3.out; subst eo33))
     try simp only [Act.put, List.setIfInBounds_toArray, List.set_cons_zero, List.set_cons_succ]
     go_loopg [38] kj4 (fun kq v38 w' => ∃ (x38_2 : Int) (x119001_2 : List Int) (u119001 : Value), v38 = .int .i64 x38_2 ∧ Aside0 (bloom_Build.l1 kq t115 (t115.length : Int) x38_2 x119000_4 x119001_2 = some (r1, r2)) ∧ Aside0 (kq ≤ kj4) ∧ Aside0 (Kd.R Kd.string 9 w' w.heap.size (fun _ => True) (.slice Ao33 t115.length co33) t115) ∧ Aside0 (Kd.R (Kd.int .u8) 5 w' w.heap.size (fun _ => True) u119001 x119001_2) ∧ Aside0 (w'.heap[gb110]? = some (.cells #[.int .i64 0, (.slice none 0 0)] 26 (0, 0))) ∧ Aside0 (w'.heap[gb118]? = some (.cells #[.int .i64 x119000_4, u119001] 26 (0, 0))) ∧ Aside0 (Below w.heap.size w w'))
     case atStart => exact ⟨(0), (y119), (.slice Ao31 y119.length co31), (by first | rfl | (simp; done) | (simp [*]; done)), H', ⟨Nat.le_refl _⟩, ⟨by (with_reducible repeat (first | apply Kd.R_alloc | apply Kd.R_drewN | apply Kd.R_drew)); exact Kd.R_mono (Kd.R_far (p := ⟨gb118, 1, none⟩) (Kd.R_types HO_3.out BK118.out (by decide)) (fun _ hk => hk.2) (.slice Ao31 y119.length co31)) (fun _ hk => trivial)⟩, ⟨by (with_reducible repeat (first | apply Kd.R_alloc | apply Kd.R_drewN | apply Kd.R_drew)); exact Kd.R_mono (Kd.R_far (p := ⟨gb118, 1, none⟩) (Kd.R_types HO121.out BK118.out (by decide)) (fun _ hk => hk.2) (.slice Ao31 y119.length co31)) (fun _ hk => trivial)⟩, ⟨by (with_reducible repeat (first | refine blk_drewN ?_ _ | refine blk_drew ?_ | refine blk_alloc ?_ _)); refine blk_far ?_ NB110_118.out _; (with_reducible repeat (first | refine blk_drewN ?_ _ | refine blk_drew ?_ | refine blk_alloc ?_ _)); exact BK110.out⟩, ⟨by (with_reducible repeat (first | refine blk_drewN ?_ _ | refine blk_drew ?_ | refine blk_alloc ?_ _)); refine blk_put (cs := #[.int .i64 x119000_4, .slice none 0 0]) ?_ 1 _ rfl; (with_reducible repeat (first | refine blk_drewN ?_ _ | refine blk_drew ?_ | refine blk_alloc ?_ _)); exact BK118.out⟩, ⟨mZ⟩⟩
     case round =>
      clear H'
      try clear c14
      try clear c14b0
      try clear c14b1
      try clear c15
      try clear c15b0
      try clear c25
      try clear c25b0
      try clear c25b1
      try clear c26
      try clear c26b0
      try clear c26b1
      try clear hcz13_0
      try clear hcz13_1
      try clear hcz17_0
      try clear hcz17_1
      try clear hcz20_0
      try clear hcz20_1
      try clear hcz23_0
      try clear hcz23_1
      try clear hcz28_0
      try clear hcz28_1
      try clear hcz32_0
      try clear hcz32_1
      try clear hfz13_0
      try clear hfz13_1
      try clear hfz17_0
      try clear hfz17_1
      try clear hfz20_0
      try clear hfz20_1
      try clear hfz23_0
      try clear hfz23_1
      try clear hfz28_0
      try clear hfz28_1
      try clear hfz32_0
      try clear hfz32_1
      try clear BK110
      try clear BK118
      obtain ⟨x38_2, x119001_2, u119001, rfl, HA, HK2, HO_36, HO_119001, BK110, BK118, HB⟩ := hrel
      cases gk with
      | zero => exact absurd HA.out (by simp [bloom_Build.l1])
      | succ k2 =>
       have H := HA.out
       clear HA
       simp only [bloom_Build.l1] at H
       by_cases c34 : x38_2 < (t115.length : Int)
       ·rw [if_pos c34] at H
        have c34b0 : decide (x38_2 < (t115.length : Int)) = true := decide_eq_true c34
        clear c34
        by_cases c35 : 0 ≤ x38_2
        ·rw [if_pos c35] at H
         have c35b0 : decide (0 ≤ x38_2) = true := decide_eq_true c35
         clear c35
         by_cases c36 : x38_2 < (t115.length : Int)
         ·rw [if_pos c36] at H
          have c36b0 : decide (x38_2 < (t115.length : Int)) = true := decide_eq_true c36
          clear c36
          replace H := Option.bind_eq_some_iff.mp H
          obtain ⟨t123, A370, H⟩ := H
          replace H : (bloom_Build.l2 k2 t115 (t115.length : Int) x38_2 t123 (t123.length : Int) 0 x119000_4 x119001_2) = some (r1, r2) := H
          have A37 := Aside0.mk A370
          clear A370
          have H' := Aside0.mk H
          clear H
          have p122 : 0 ≤ (x38_2 : Int) := of_decide_eq_true (by first | (with_reducible assumption) | assumption)
          have q122 : x38_2 < (t115.length : Int) := of_decide_eq_true (by first | (with_reducible assumption) | assumption)
          obtain ⟨ad122, e122, hx122_0⟩ := Kd.at_string (Kd.R_reads' HO_36.out).2.2 x38_2 p122 q122
          cases e122
          replace p122 := eq_true p122
          replace q122 := eq_true q122
          have hnb38 := NB118_110.out
          have hnc38 := NB110_118.out
          obtain ⟨hcz39_0, hcz39_1, hfz39_0, hfz39_1⟩ := cells_2 BK118.out
          go_wp2_with (first | ((with_reducible refine gate_callee (f := 26) rfl ?_); refine goesL_ (some 45) rfl rfl Try.func26 (by kernel_rfl) rfl #[.string (rdOf ByteArray.empty t115 x38_2), .int .i64 x119000_4] rfl (by (try simp only [List.map_toArray, List.map_cons, List.map_nil]); first | done | rfl | (simp only [List.length_drop, List.length_take]; rfl)) ?_; (with_reducible refine (bloom_spots.calls k2 (rdOf ByteArray.empty t115 x38_2) x119000_4 t123 _ A37.out).mono ?_); rintro e w40 ⟨v124, rfl, ho0, hb⟩; refine ⟨_, rfl, ?_⟩; have n0_ := Aside0.mk (Kd.R_below (mR HO_36.out) hb); have n1_ := Aside0.mk (Kd.R_below (mR HO_119001.out) hb); have n2_ := Aside0.mk (Kd.R_lower ho0 (below_size mZ)); have n3_ := Aside0.mk (blk_below (mK BK110.out) hb); have n4_ := Aside0.mk (blk_below (mK BK118.out) hb); have n5_ := Aside0.mk (below_step mZ hb); clear HO_36; clear HO_119001; clear BK110; clear BK118; clear HB; have HO_36 := n0_; have HO_119001 := n1_; have HO125 := n2_; have BK110 := n3_; have BK118 := n4_; have HB := n5_; clear n0_ n1_ n2_ n3_ n4_ n5_; (try clear hb); (try clear hb2); (try clear hk); (try clear hi); (try clear ho0); obtain ⟨Ao41, co41, eo41⟩ := Kd.R_slice HO125.out; subst eo41))
          try simp only [Act.put, List.setIfInBounds_toArray, List.set_cons_zero, List.set_cons_succ]
          go_loopg [47] k2 (fun kq v47 w' => ∃ (x47_3 : Int) (x119001_3 : List Int) (u119001 : Value), v47 = .int .i64 x47_3 ∧ Aside0 (bloom_Build.l2 kq t115 (t115.length : Int) x38_2 t123 (t123.length : Int) x47_3 x119000_4 x119001_3 = some (r1, r2)) ∧ Aside0 (kq ≤ k2) ∧ Aside0 (Kd.R Kd.string 9 w' w.heap.size (fun _ => True) (.slice (some ad122) t115.length co33) t115) ∧ Aside0 (Kd.R (Kd.int .u64) 57 w' w.heap.size (fun _ => True) (.slice Ao41 t123.length co41) t123) ∧ Aside0 (Kd.R (Kd.int .u8) 5 w' w.heap.size (fun _ => True) u119001 x119001_3) ∧ Aside0 (w'.heap[gb110]? = some (.cells #[.int .i64 0, (.slice none 0 0)] 26 (0, 0))) ∧ Aside0 (w'.heap[gb118]? = some (.cells #[.int .i64 x119000_4, u119001] 26 (0, 0))) ∧ Aside0 (Below w.heap.size w w'))
          case atStart => exact ⟨(0), (x119001_2), (u119001), (by first | rfl | (simp; done) | (simp [*]; done)), H', ⟨Nat.le_refl _⟩, ⟨mR HO_36.out⟩, ⟨mR HO125.out⟩, ⟨mR HO_119001.out⟩, ⟨mK BK110.out⟩, ⟨mK BK118.out⟩, ⟨mZ⟩⟩
          case round =>
           clear H'
           try clear c14
           try clear c14b0
           try clear c14b1
           try clear c15
           try clear c15b0
           try clear c25
           try clear c25b0
           try clear c25b1
           try clear c26
           try clear c26b0
           try clear c26b1
           try clear c34
           try clear c34b0
           try clear c35
           try clear c35b0
           try clear c36
           try clear c36b0
           try clear hcz13_0
           try clear hcz13_1
           try clear hcz17_0
           try clear hcz17_1
           try clear hcz20_0
           try clear hcz20_1
           try clear hcz23_0
           try clear hcz23_1
           try clear hcz28_0
           try clear hcz28_1
           try clear hcz32_0
           try clear hcz32_1
           try clear hcz39_0
           try clear hcz39_1
           try clear hfz13_0
           try clear hfz13_1
           try clear hfz17_0
           try clear hfz17_1
           try clear hfz20_0
           try clear hfz20_1
           try clear hfz23_0
           try clear hfz23_1
           try clear hfz28_0
           try clear hfz28_1
           try clear hfz32_0
           try clear hfz32_1
           try clear hfz39_0
           try clear hfz39_1
           try clear hx122_0
           try clear p122
           try clear q122
           try clear BK110
           try clear BK118
           obtain ⟨x47_3, x119001_3, u119001, rfl, HA, HK3, HO_36, HO_45, HO_119001, BK110, BK118, HB⟩ := hrel
           cases gk with
           | zero => exact absurd HA.out (by simp [bloom_Build.l2])
           | succ k3 =>
            have H := HA.out
            clear HA
            simp only [bloom_Build.l2] at H
            by_cases c42 : x47_3 < (t123.length : Int)
            ·rw [if_pos c42] at H
             have c42b0 : decide (x47_3 < (t123.length : Int)) = true := decide_eq_true c42
             clear c42
             by_cases c43 : 0 ≤ x47_3
             ·rw [if_pos c43] at H
              have c43b0 : decide (0 ≤ x47_3) = true := decide_eq_true c43
              clear c43
              by_cases c44 : x47_3 < (t123.length : Int)
              ·rw [if_pos c44] at H
               have c44b0 : decide (x47_3 < (t123.length : Int)) = true := decide_eq_true c44
               clear c44
               obtain ⟨ji45, hji45⟩ : ∃ j_ : Int, (IntKind.u64.wrap (Int.tdiv (rd t123 x47_3) 8)) = j_ := ⟨_, rfl⟩
               replace H : (if 0 ≤ (ji45) then (if (ji45) < (x119001_3.length : Int) then (if 0 ≤ (Int.tmod (rd t123 x47_3) 8) then (bloom_Build.l2 k3 t115 (t115.length : Int) x38_2 t123 (t123.length : Int) (wrap64 (x47_3 + 1)) x119000_4 (x119001_3.set ((ji45) : Int).toNat (Go.bits .or .u8 (rd x119001_3 (ji45)) (shl .u8 1 (Int.tmod (rd t123 x47_3) 8))))) else (none)) else (none)) else (none)) = some (r1, r2) := by first | (rw [hji45] at H; exact H) | (simp only [hji45] at H ⊢; exact H)
               by_cases c46 : 0 ≤ (ji45)
               ·rw [if_pos c46] at H
                have c46b0 : decide (0 ≤ (ji45)) = true := decide_eq_true c46
                clear c46
                by_cases c47 : (ji45) < (x119001_3.length : Int)
                ·rw [if_pos c47] at H
                 have c47b0 : decide ((ji45) < (x119001_3.length : Int)) = true := decide_eq_true c47
                 clear c47
                 obtain ⟨ji48, hji48⟩ : ∃ j_ : Int, (Int.tmod (rd t123 x47_3) 8) = j_ := ⟨_, rfl⟩
                 replace H : (if 0 ≤ (ji48) then (bloom_Build.l2 k3 t115 (t115.length : Int) x38_2 t123 (t123.length : Int) (wrap64 (x47_3 + 1)) x119000_4 (x119001_3.set ((ji45) : Int).toNat (Go.bits .or .u8 (rd x119001_3 (ji45)) (shl .u8 1 (ji48))))) else (none)) = some (r1, r2) := by first | (rw [hji48] at H; exact H) | (simp only [hji48] at H ⊢; exact H)
                 by_cases c49 : 0 ≤ (ji48)
                 ·rw [if_pos c49] at H
                  have c49b0 := eq_true c49
                  have c49b1 : decide (0 ≤ (ji48)) = true := decide_eq_true c49
                  clear c49
                  obtain ⟨ji50, hji50⟩ : ∃ j_ : Int, (shl .u8 1 (ji48)) = j_ := ⟨_, rfl⟩
                  replace H : (bloom_Build.l2 k3 t115 (t115.length : Int) x38_2 t123 (t123.length : Int) (wrap64 (x47_3 + 1)) x119000_4 (x119001_3.set ((ji45) : Int).toNat (Go.bits .or .u8 (rd x119001_3 (ji45)) (ji50)))) = some (r1, r2) := by first | (rw [hji50] at H; exact H) | (simp only [hji50] at H ⊢; exact H)
                  have hji50_ : (IntKind.u8.wrap (1 * 2 ^ min (ji48).toNat 8)) = ji50 := hji50
                  have hji50z : (ji48) ≤ 8 → (IntKind.u8.wrap (1 * 2 ^ (ji48).toNat)) = ji50 := shl_small hji50
                  have hji50u : (IntKind.u8.wrap (2 ^ min (ji48).toNat 8)) = ji50 := by have h_ := hji50_; rw [Int.one_mul] at h_; exact h_
                  have hji50v : (ji48) ≤ 8 → (IntKind.u8.wrap (2 ^ (ji48).toNat)) = ji50 := fun hle_ => by have h_ := hji50z hle_; rw [Int.one_mul] at h_; exact h_
                  have hji508 : (1 * 2 ^ min (ji48).toNat 8) % 256 = ji50 := (IntKind.wrap_u8 _).symm.trans hji50_
                  have hji509 : (ji48) ≤ 8 → (1 * 2 ^ (ji48).toNat) % 256 = ji50 := fun h_ => (IntKind.wrap_u8 _).symm.trans (hji50z h_)
                  have hji506 : (2 ^ min (ji48).toNat 8) % 256 = ji50 := by have h_ := hji508; rw [Int.one_mul] at h_; exact h_
                  have hji507 : (ji48) ≤ 8 → (2 ^ (ji48).toNat) % 256 = ji50 := fun hle_ => by have h_ := hji509 hle_; rw [Int.one_mul] at h_; exact h_
                  obtain ⟨y128, hy128⟩ : ∃ y_ : List Int, y_ = (x119001_3.set ((ji45) : Int).toNat (Go.bits .or .u8 (rd x119001_3 (ji45)) (ji50))) := ⟨_, rfl⟩
                  replace H : (bloom_Build.l2 k3 t115 (t115.length : Int) x38_2 t123 (t123.length : Int) (wrap64 (x47_3 + 1)) x119000_4 y128) = some (r1, r2) := by first | (rw [hy128]; with_reducible exact H) | (have H2_ := (Option.bind_some _ _).symm.trans H; rw [hy128]; with_reducible exact H2_) | (have H2_ := (Option.bind_some _ _).symm.trans H; with_reducible exact H2_) | with_reducible exact H | (rw [hy128]; exact H) | exact H
                  have Ny128 := Aside0.mk hy128
                  clear hy128
                  have H' := Aside0.mk H
                  clear H
                  have p126 : 0 ≤ (x47_3 : Int) := of_decide_eq_true (by first | (with_reducible assumption) | assumption)
                  have q126 : x47_3 < (t123.length : Int) := of_decide_eq_true (by first | (with_reducible assumption) | assumption)
                  obtain ⟨ad126, e126, hx126_0⟩ := Kd.at_int (Kd.R_reads' HO_45.out).2.2 x47_3 p126 q126
                  cases e126
                  replace p126 := eq_true p126
                  replace q126 := eq_true q126
                  have hnb52 := NB118_110.out
                  have hnc52 := NB110_118.out
                  obtain ⟨hcz53_0, hcz53_1, hfz53_0, hfz53_1⟩ := cells_2 BK118.out
                  obtain ⟨Ao54, co54, eo54⟩ := Kd.R_slice HO_119001.out
                  subst eo54
                  have p127 : 0 ≤ ((ji45) : Int) := of_decide_eq_true (by first | (with_reducible assumption) | assumption)
                  have q127 : (ji45) < (x119001_3.length : Int) := of_decide_eq_true (by first | (with_reducible assumption) | assumption)
                  obtain ⟨ad127, e127, hx127_0⟩ := Kd.at_int (Kd.R_reads' HO_119001.out).2.2 (ji45) p127 q127
                  cases e127
                  replace p127 := eq_true p127
                  replace q127 := eq_true q127
                  have p51 : 0 ≤ ((ji45) : Int) := of_decide_eq_true (by first | (with_reducible assumption) | assumption)
                  have q51 : ((ji45) : Int) < ((x119001_3.length : Int) : Int) := of_decide_eq_true (by first | (with_reducible assumption) | assumption)
                  obtain ⟨go51, co51, eo51, gb51, gl51, cl51, HG51⟩ := Kd.R_form HO_119001.out (by omega)
                  (first | cases eo51 | (injection eo51 with ea_ en_ ec_; (first | subst ea_ | (injection ea_ with ea_; subst ea_)); subst ec_; clear en_))
                  have GB51 := Aside0.mk gb51
                  have GG51 := Aside0.mk HG51
                  clear gb51 gl51 HG51
                  (first | simp only [add_plain] at hx127_0 | skip)
                  obtain ⟨hx51_0, hf51_0⟩ := Kd.R_celln 0 HO_119001.out ((ji45) : Int) p51 q51
                  replace p51 := eq_true p51
                  replace q51 := eq_true q51
                  have HP55 := Kd.R_putg HO_119001.out ((ji45) : Int) (Go.bits .or .u8 (rd x119001_3 (ji45)) (ji50))
                  go_wp2_with (first | ((with_reducible refine gate_store (t := 5) (p := 61) rfl ?_); refine store_event (t := 5) (p := 61) (v := ?vo_w56) (w1 := (wr.setCell ⟨go51, ((ji45) : Int).toNat, none⟩ (.int .u8 (Go.bits .or .u8 (rd x119001_3 (ji45)) (ji50))))) ?hg ?ho ?hn ?hr ?_; (case ho => rfl); (case hg => rfl); (case hn => rfl); (case hr => first | (go_simp; done) | (go_simp; rfl)); intro w56 hw; have hg : wr.grownBy w56 (some go51) := (by rw [hw]; exact HP55.2); have hp_ : Kd.R (Kd.int .u8) 5 w56 w.heap.size (fun _ => True) (.slice (some ⟨go51, 0, none⟩) x119001_3.length co54) y128 := (by rw [hw, Ny128.out]; exact HP55.1); clear HP55; have n0_ := Aside0.mk (Kd.R_over' (v := (.slice (some ⟨go51, 0, none⟩) x119001_3.length co54)) (mR HO_36.out) (Kd.R_typed HO_119001.out) (by decide) hg); have n1_ := Aside0.mk (Kd.R_over' (v := (.slice (some ⟨go51, 0, none⟩) x119001_3.length co54)) (mR HO_45.out) (Kd.R_typed HO_119001.out) (by decide) hg); have n2_ := Aside0.mk (hp_); have n3_ := Aside0.mk (blk_grown (mK BK110.out) hg (Kd.R_ne HO_119001.out BK110.out (by decide))); have n4_ := Aside0.mk (blk_grown (mK BK118.out) hg (Kd.R_ne HO_119001.out BK118.out (by decide))); have n5_ := Aside0.mk ((by rw [hw]; exact below_set (HB.out) GB51.out : Below w.heap.size w w56)); clear HO_36; clear HO_45; clear HO_119001; clear BK110; clear BK118; clear HB; have HO_36 := n0_; have HO_45 := n1_; have HO_119001 := n2_; have BK110 := n3_; have BK118 := n4_; have HB := n5_; clear n0_ n1_ n2_ n3_ n4_ n5_; clear hg hw hp_))
                  go_roundg k3
                  case measure => have := HJ4.out; have := HK2.out; have := HK3.out; omega
                  case rel => exact ⟨(wrap64 (x47_3 + 1)), (y128), (.slice (some ⟨go51, 0, none⟩) x119001_3.length co54), (by first | rfl | (simp; done) | (simp [*]; done)), H', ⟨by have := HJ4.out; have := HK2.out; have := HK3.out; omega⟩, ⟨mR HO_36.out⟩, ⟨mR HO_45.out⟩, ⟨mR HO_119001.out⟩, ⟨mK BK110.out⟩, ⟨mK BK118.out⟩, ⟨mZ⟩⟩
                 ·rw [if_neg c49] at H
                  exact absurd H (by simp)
                ·rw [if_neg c47] at H
                 exact absurd H (by simp)
               ·rw [if_neg c46] at H
                exact absurd H (by simp)
              ·rw [if_neg c44] at H
               exact absurd H (by simp)
             ·rw [if_neg c43] at H
              exact absurd H (by simp)
            ·rw [if_neg c42] at H
             have c42b0 : decide (x47_3 < (t123.length : Int)) = false := decide_eq_false c42
             clear c42
             have H' := Aside0.mk H
             clear H
             go_wp2
             go_roundg k3
             case measure => have := HJ4.out; have := HK2.out; have := HK3.out; omega
             case rel => exact ⟨(wrap64 (x38_2 + 1)), (x119001_3), (u119001), (by first | rfl | (simp; done) | (simp [*]; done)), H', ⟨by have := HJ4.out; have := HK2.out; have := HK3.out; omega⟩, ⟨mR HO_36.out⟩, ⟨mR HO_119001.out⟩, ⟨mK BK110.out⟩, ⟨mK BK118.out⟩, ⟨mZ⟩⟩
         ·rw [if_neg c36] at H
          exact absurd H (by simp)
        ·rw [if_neg c35] at H
         exact absurd H (by simp)
       ·rw [if_neg c34] at H
        have c34b0 : decide (x38_2 < (t115.length : Int)) = false := decide_eq_false c34
        clear c34
        simp only [Option.some.injEq, Prod.mk.injEq] at H
        obtain ⟨rfl, rfl⟩ := H
        have hnb57 := NB118_110.out
        have hnc57 := NB110_118.out
        obtain ⟨hcz58_0, hcz58_1, hfz58_0, hfz58_1⟩ := cells_2 BK118.out
        obtain ⟨hcz59_0, hcz59_1, hfz59_0, hfz59_1⟩ := cells_2 BK110.out
        obtain ⟨Ao60, co60, eo60⟩ := Kd.R_slice HO_119001.out
        subst eo60
        go_wp2
        refine bodyPost_ret (results_cell_row rfl _ _ gb110 26 #[.int .i64 x119000_4, .slice Ao60 x119001_2.length co60] (0, 0) _ rfl (by (with_reducible repeat (first | refine blk_drewN ?_ _ | refine blk_drew ?_ | refine blk_alloc ?_ _)); apply puts_2; (with_reducible repeat (first | refine blk_drewN ?_ _ | refine blk_drew ?_ | refine blk_alloc ?_ _)); exact BK110.out) Try.underlying26 rfl (by kernel_rfl)) rfl ?_
        exact ⟨_, by first | rfl | (simp [errW_none, errW_some] <;> rfl) | (simp only [← hji24]; first | rfl | (simp [errW_none, errW_some] <;> rfl)) | (simp [*, errW_none, errW_some] <;> rfl), by (with_reducible repeat (first | apply Kd.R_alloc | apply Kd.R_drewN | apply Kd.R_drew)); exact Kd.R_mono (Kd.R_far (p := ⟨gb110, 1, none⟩) (Kd.R_far (p := ⟨gb110, 0, none⟩) (Kd.R_types HO_119001.out BK110.out (by decide)) (fun _ hk => hk.2) (.int .i64 x119000_4)) (fun _ hk => hk.2) (.slice Ao60 x119001_2.length co60)) (fun _ hk => trivial), mZ⟩
    ·rw [if_neg c26] at H
     exact absurd H (by simp)
   ·rw [if_neg c25] at H
    exact absurd H (by simp)

/-! ### bloom_size: function 29 -/
def bloom_size.f (a0 : Int) : Option (Bool) := if a0 ≥ 64 then (if a0 ≤ 65536 then (some ((Go.bits .and .i64 a0 (wrap64 (a0 - 1))) == 0)) else (some false)) else (some false)
set_option maxHeartbeats 8000000 in
set_option maxRecDepth 100000 in
theorem bloom_size.calls (a0 : Int) (r : Bool) (w : World) (h : bloom_size.f a0 = some r) :
  Calls Try.prog 29 #[.int .i64 a0] w fun e w' => e = .returned (.bool r) ∧ Drawn0 w w' := by
 have H : (if a0 ≥ 64 then (if a0 ≤ 65536 then (some ((Go.bits .and .i64 a0 (wrap64 (a0 - 1))) == 0)) else (some false)) else (some false)) = some r := h
 clear h
 by_cases c2 : a0 ≥ 64
 ·rw [if_pos c2] at H
  have c2b0 : decide (64 ≤ a0) = true := decide_eq_true c2
  clear c2
  by_cases c3 : a0 ≤ 65536
  ·rw [if_pos c3] at H
   have c3b0 : decide (a0 ≤ 65536) = true := decide_eq_true c3
   clear c3
   obtain rfl := Option.some.inj H
   go_enter Try.func29, Try.ntmps29
   go_wp2
   go_ret
   exact ⟨by first | rfl | (simp; done) | (simp [*]; done), by repeat (first | exact Drawn0.refl _ | apply Drawn0.step)⟩
  ·rw [if_neg c3] at H
   have c3b0 : decide (a0 ≤ 65536) = false := decide_eq_false c3
   clear c3
   obtain rfl := Option.some.inj H
   go_enter Try.func29, Try.ntmps29
   go_wp2
   go_ret
   exact ⟨by first | rfl | (simp; done) | (simp [*]; done), by repeat (first | exact Drawn0.refl _ | apply Drawn0.step)⟩
 ·rw [if_neg c2] at H
  have c2b0 : decide (64 ≤ a0) = false := decide_eq_false c2
  clear c2
  obtain rfl := Option.some.inj H
  go_enter Try.func29, Try.ntmps29
  go_wp2
  go_ret
  exact ⟨by first | rfl | (simp; done) | (simp [*]; done), by repeat (first | exact Drawn0.refl _ | apply Drawn0.step)⟩

/-! ### bloom_Right: function 13 -/
def bloom_Right.f (a0_0 : Int) (l0_1 : List Int) : Option (Bool) := (bloom_size.f a0_0).bind fun t130 => (if t130 = true then (some ((l0_1.length : Int) == (wrap64 (Int.tdiv a0_0 8)))) else (some false))
set_option maxHeartbeats 8000000 in
set_option maxRecDepth 100000 in
theorem bloom_Right.calls (a0_0 : Int) (A0_1 : Option Addr) (c0_1 : Nat) (l0_1 : List Int) (r : Bool) (w : World) (hr0_1 : Kd.C (Kd.int .u8) w A0_1 l0_1.length l0_1) (hc0_1 : l0_1.length ≤ c0_1) (h : bloom_Right.f a0_0 l0_1 = some r) :
  Calls Try.prog 13 #[.agg #[.int .i64 a0_0, .slice A0_1 l0_1.length c0_1]] w fun e w' => e = .returned (.bool r) ∧ Below w.heap.size w w' := by
 have hu26 := Try.underlying26
 have HR0_1 := Aside0.mk hr0_1
 have HC0_1 := Aside0.mk hc0_1
 clear hr0_1 hc0_1
 have HB := Aside0.mk (Below.refl w.heap.size w)
 have H : ((bloom_size.f a0_0).bind fun t130 => (if t130 = true then (some ((l0_1.length : Int) == (wrap64 (Int.tdiv a0_0 8)))) else (some false))) = some r := h
 clear h
 replace H := Option.bind_eq_some_iff.mp H
 obtain ⟨t130, A20, H⟩ := H
 replace H : (if t130 = true then (some ((l0_1.length : Int) == (wrap64 (Int.tdiv a0_0 8)))) else (some false)) = some r := H
 have A2 := Aside0.mk A20
 clear A20
 by_cases c3 : t130 = true
 ·subst c3
  have H1 : (some ((l0_1.length : Int) == (wrap64 (Int.tdiv a0_0 8)))) = some r := by rw [if_pos rfl] at H; exact H
  clear H
  have H := H1
  clear H1
  obtain rfl := Option.some.inj H
  go_enter Try.func13, Try.ntmps13
  go_wp2_with (first | ((with_reducible refine gate_dst (N := 1) rfl ?_); (try (refine gate_guard (by rfl) ?_; dsimp only)); refine box_event ?hg (N := 1) ?hd (cs := #[.int .i64 a0_0, .slice A0_1 l0_1.length c0_1]) (t := 26) ?hr ?_; (case hd => rfl); (case hg => rfl); (case hr => first | (go_simp; done) | (go_simp; rfl)); intro gb129 hg w4 hbox hb; have n0_ := Aside0.mk (below_step (mB HB.out) hb); have n1_ := Aside0.mk (hbox); have n2_ := Aside0.mk ((by rw [hg]; exact (below_size (mB HB.out)) : w.heap.size ≤ gb129)); have n3_ := n2_; clear HB; have HB := n0_; have BK129 := n1_; have GW129 := n2_; have GE129 := n3_; clear n0_ n1_ n2_ n3_; clear hb hbox hg; obtain ⟨hcz5_0, hcz5_1, hfz5_0, hfz5_1⟩ := cells_2 BK129.out) | ((with_reducible refine gate_callee (f := 29) rfl ?_); refine goesL_ (some 5) rfl rfl Try.func29 (by kernel_rfl) rfl #[.int .i64 a0_0] rfl (by (try simp only [List.map_toArray, List.map_cons, List.map_nil]); first | done | rfl | (simp only [List.length_drop, List.length_take]; rfl)) ?_; (with_reducible refine (bloom_size.calls a0_0 true _ A2.out).mono ?_); rintro e w' ⟨rfl, ⟨nd, rfl⟩⟩; refine ⟨_, rfl, ?_⟩))
  go_ret
  exact ⟨by first | rfl | (simp [errW_none, errW_some] <;> rfl) | (simp [*, errW_none, errW_some] <;> rfl), mZ⟩
 ·replace c3 := Bool.eq_false_iff.mpr c3
  subst c3
  have H1 : (some false) = some r := by rw [if_neg (show ¬ (false = true) by decide)] at H; exact H
  clear H
  have H := H1
  clear H1
  obtain rfl := Option.some.inj H
  go_enter Try.func13, Try.ntmps13
  go_wp2_with (first | ((with_reducible refine gate_dst (N := 1) rfl ?_); (try (refine gate_guard (by rfl) ?_; dsimp only)); refine box_event ?hg (N := 1) ?hd (cs := #[.int .i64 a0_0, .slice A0_1 l0_1.length c0_1]) (t := 26) ?hr ?_; (case hd => rfl); (case hg => rfl); (case hr => first | (go_simp; done) | (go_simp; rfl)); intro gb129 hg w6 hbox hb; have n0_ := Aside0.mk (below_step (mB HB.out) hb); have n1_ := Aside0.mk (hbox); have n2_ := Aside0.mk ((by rw [hg]; exact (below_size (mB HB.out)) : w.heap.size ≤ gb129)); have n3_ := n2_; clear HB; have HB := n0_; have BK129 := n1_; have GW129 := n2_; have GE129 := n3_; clear n0_ n1_ n2_ n3_; clear hb hbox hg; obtain ⟨hcz7_0, hcz7_1, hfz7_0, hfz7_1⟩ := cells_2 BK129.out) | ((with_reducible refine gate_callee (f := 29) rfl ?_); refine goesL_ (some 5) rfl rfl Try.func29 (by kernel_rfl) rfl #[.int .i64 a0_0] rfl (by (try simp only [List.map_toArray, List.map_cons, List.map_nil]); first | done | rfl | (simp only [List.length_drop, List.length_take]; rfl)) ?_; (with_reducible refine (bloom_size.calls a0_0 false _ A2.out).mono ?_); rintro e w' ⟨rfl, ⟨nd, rfl⟩⟩; refine ⟨_, rfl, ?_⟩))
  go_ret
  exact ⟨by first | rfl | (simp [errW_none, errW_some] <;> rfl) | (simp [*, errW_none, errW_some] <;> rfl), mZ⟩

/-! ### bloom_May: function 11 -/
/-! bloom.May, whose closure holds the filter: by hand -/
/-- The closure: is a bit not set? -/
def bloom_May_1.f (l0 : List Int) (a : Int) : Option Bool :=
 if 0 ≤ (IntKind.u64.wrap (Int.tdiv a 8)) then (if (IntKind.u64.wrap (Int.tdiv a 8)) < (l0.length : Int) then (if 0 ≤ (Int.tmod a 8) then (some ((Go.bits .and .u8 (shr .u8 (rd l0 (IntKind.u64.wrap (Int.tdiv a 8))) (Int.tmod a 8)) 1) == 0)) else (none)) else (none)) else (none)
/-- Is one of some bits not set? -/
def bloom_any (l0 : List Int) : List Int → Option Bool
 | [] => some false
 | a :: r => (bloom_May_1.f l0 a).bind fun t => if t = true then some true else bloom_any l0 r
set_option maxHeartbeats 8000000 in
set_option maxRecDepth 100000 in
theorem bloom_May_1.calls (A0 : Option Addr) (c0 : Nat) (l0 : List Int) (a : Int) (r : Bool) (g : Nat) (w : World) (hr0 : Kd.C (Kd.int .u8) w A0 l0.length l0) (hc0 : l0.length ≤ c0) (hv : w.cell? ⟨g, 1, none⟩ = some (.slice A0 l0.length c0)) (h : bloom_May_1.f l0 a = some r) :
  Calls Try.prog 28 #[.int .u64 a, .pointer (some ⟨g, 0, none⟩)] w fun e w' => e = .returned (.bool r) ∧ Drawn0 w w' := by
 have HR0 := Aside0.mk hr0
 have HC0 := Aside0.mk hc0
 clear hr0 hc0
 have H := h
 clear h
 unfold bloom_May_1.f at H
 obtain ⟨ji7, hji7⟩ : ∃ j_ : Int, (IntKind.u64.wrap (Int.tdiv a 8)) = j_ := ⟨_, rfl⟩
 rw [hji7] at H
 by_cases c1 : 0 ≤ ji7
 ·rw [if_pos c1] at H
  by_cases c2 : ji7 < (l0.length : Int)
  ·rw [if_pos c2] at H
   by_cases c3 : 0 ≤ Int.tmod a 8
   ·rw [if_pos c3] at H
    obtain ⟨ji8, hji8⟩ : ∃ j_ : Int, Int.tmod a 8 = j_ := ⟨_, rfl⟩
    rw [hji8] at H c3
    obtain ⟨ad, e1, hx⟩ := Kd.at_int HR0.out ji7 c1 c2
    cases e1
    obtain ⟨ji9, hji9⟩ : ∃ j_ : Int, shr .u8 (rd l0 ji7) ji8 = j_ := ⟨_, rfl⟩
    rw [hji9] at H
    have hji9_ : (rd l0 ji7) / 2 ^ min ji8.toNat 8 = ji9 := hji9
    obtain rfl := Option.some.inj H
    clear H
    have c1b : decide (0 ≤ ji7) = true := decide_eq_true c1
    have c2b : decide (ji7 < (l0.length : Int)) = true := decide_eq_true c2
    have c3b : decide (0 ≤ ji8) = true := decide_eq_true c3
    replace c1 := eq_true c1
    replace c2 := eq_true c2
    replace c3 := eq_true c3
    clear hji9
    have hu26 := Try.underlying26
    go_enter Try.func28, Try.ntmps28
    go_wp2
    go_ret
    exact ⟨rfl, by repeat (first | exact Drawn0.refl _ | apply Drawn0.step)⟩
   ·rw [if_neg c3] at H
    exact absurd H (by simp)
  ·rw [if_neg c2] at H
   exact absurd H (by simp)
 ·rw [if_neg c1] at H
  exact absurd H (by simp)
theorem bloom_any_drop (l0 K : List Int) (x : Nat) (h : x < K.length) : bloom_any l0 (K.drop x) = (bloom_May_1.f l0 (rd K (x : Int))).bind fun t => if t = true then some true else bloom_any l0 (K.drop (x + 1)) := by
 have e : rd K (x : Int) = K[x] := by simp [rd, List.getD_eq_getElem?_getD, List.getElem?_eq_getElem h]
 rw [List.drop_eq_getElem_cons h, bloom_any, e]
set_option maxHeartbeats 8000000 in
set_option maxRecDepth 100000 in
theorem slices_IndexFunc_bit (A : Option Addr) (c : Nat) (K : List Int) (A0 : Option Addr) (c0 : Nat) (l0 : List Int) (g : Nat) (b : Bool) (w : World) (hr : Kd.C (Kd.int .u64) w A K.length K) (hl : K.length ≤ 9223372036854775807) (hr0 : Kd.C (Kd.int .u8) w A0 l0.length l0) (hc0 : l0.length ≤ c0) (hv : w.cell? ⟨g, 1, none⟩ = some (.slice A0 l0.length c0)) (h : bloom_any l0 K = some b) :
  Calls Try.prog 40 #[.slice A K.length c, .func (.func 28) #[] #[.pointer (some ⟨g, 0, none⟩)]] w fun e w' => ∃ r : Int, e = .returned (.int .i64 r) ∧ decide (0 ≤ r) = b ∧ Drawn0 w w' := by
 have HR := Aside0.mk hr
 have HL := Aside0.mk hl
 have HR0 := Aside0.mk hr0
 have HC0 := Aside0.mk hc0
 have HV := Aside0.mk hv
 have H' := Aside0.mk h
 clear hr hl hr0 hc0 hv h
 go_enter Try.func40, Try.ntmps40
 go_wp2
 go_loopg [8] K.length (fun kq v8 w' => ∃ x : Nat, v8 = .int .i64 (x : Int) ∧ Aside0 (x ≤ K.length ∧ K.length - x ≤ kq) ∧ Aside0 (bloom_any l0 (K.drop x) = some b) ∧ Drawn0 w w')
 case atStart => exact ⟨0, rfl, ⟨by omega, by omega⟩, ⟨by rw [List.drop_zero]; exact H'.out⟩, Drawn0.refl _⟩
 case round =>
  clear H'
  obtain ⟨x, rfl, HX, HA, ⟨m1, rfl⟩⟩ := hrel
  by_cases h : x < K.length
  ·have hlt : decide ((x : Int) < (K.length : Int)) = true := decide_eq_true (by omega)
   have p1 : 0 ≤ (x : Int) := by omega
   have q1 : (x : Int) < (K.length : Int) := by omega
   obtain ⟨ad, e1, hx⟩ := Kd.at_int HR.out (x : Int) p1 q1
   cases e1
   rw [Int.toNat_natCast] at hx
   have H := HA.out
   rw [bloom_any_drop l0 K x h] at H
   clear HA
   obtain ⟨t, ht, H⟩ := Option.bind_eq_some_iff.mp H
   have HT := Aside0.mk ht
   have hL := HL.out
   clear ht
   generalize rd K (x : Int) = a at hx HT
   cases t with
   | true =>
    rw [if_pos rfl] at H
    obtain rfl := Option.some.inj H
    clear H hL
    go_wp2_with (go_at_call 28; refine (bloom_May_1.calls A0 c0 l0 a true g _ (Kd.C_drewN HR0.out _) HC0.out (show (w.drewN _).cell? _ = _ from HV.out) HT.out).mono ?_; rintro e w1 ⟨rfl, ⟨m2, rfl⟩⟩)
    go_ret
    exact ⟨_, rfl, decide_eq_true p1, by repeat (first | exact Drawn0.refl _ | apply Drawn0.step)⟩
   | false =>
    rw [if_neg (by decide)] at H
    have HN := Aside0.mk H
    have hw : Aside0 (wrap64 ((x : Int) + 1) = ((x + 1 : Nat) : Int)) := ⟨by unfold wrap64; omega⟩
    clear H hL
    go_wp2_with (go_at_call 28; refine (bloom_May_1.calls A0 c0 l0 a false g _ (Kd.C_drewN HR0.out _) HC0.out (show (w.drewN _).cell? _ = _ from HV.out) HT.out).mono ?_; rintro e w1 ⟨rfl, ⟨m2, rfl⟩⟩)
    go_roundg (K.length - (x + 1))
    case measure => have := HX.out; omega
    case rel => exact ⟨x + 1, by rw [hw.out], ⟨by omega, by omega⟩, HN, by repeat (first | exact Drawn0.refl _ | apply Drawn0.step)⟩
  ·have hlt : decide ((x : Int) < (K.length : Int)) = false := decide_eq_false (by omega)
   have H := HA.out
   rw [List.drop_eq_nil_of_le (by omega)] at H
   obtain rfl := Option.some.inj H
   clear H HA
   go_wp2
   go_ret
   exact ⟨_, rfl, by decide, by repeat (first | exact Drawn0.refl _ | apply Drawn0.step)⟩
set_option maxHeartbeats 8000000 in
set_option maxRecDepth 100000 in
theorem slices_ContainsFunc_bit (A : Option Addr) (c : Nat) (K : List Int) (A0 : Option Addr) (c0 : Nat) (l0 : List Int) (g : Nat) (b : Bool) (w : World) (hr : Kd.C (Kd.int .u64) w A K.length K) (hl : K.length ≤ 9223372036854775807) (hr0 : Kd.C (Kd.int .u8) w A0 l0.length l0) (hc0 : l0.length ≤ c0) (hv : w.cell? ⟨g, 1, none⟩ = some (.slice A0 l0.length c0)) (h : bloom_any l0 K = some b) :
  Calls Try.prog 27 #[.slice A K.length c, .func (.func 28) #[] #[.pointer (some ⟨g, 0, none⟩)]] w fun e w' => e = .returned (.bool b) ∧ Drawn0 w w' := by
 have HR := Aside0.mk hr
 have HL := Aside0.mk hl
 have HR0 := Aside0.mk hr0
 have HC0 := Aside0.mk hc0
 have HV := Aside0.mk hv
 have HH := Aside0.mk h
 clear hr hl hr0 hc0 hv h
 go_enter Try.func27, Try.ntmps27
 go_wp2_with (go_at_call 40; refine (slices_IndexFunc_bit _ _ K A0 c0 l0 g b _ HR.out HL.out HR0.out HC0.out HV.out HH.out).mono ?_; rintro e w1 ⟨r, rfl, hb, ⟨m1, rfl⟩⟩)
 go_ret
 exact ⟨rfl, by repeat (first | exact Drawn0.refl _ | apply Drawn0.step)⟩
/-- bloom.May: may a text have been built in? -/
def bloom_May.f (k : Nat) (a0_0 : Int) (l0_1 : List Int) (a1 : ByteArray) : Option Bool := (bloom_Right.f a0_0 l0_1).bind fun t => if t = true then ((bloom_spots.f k a1 a0_0).bind fun K => if K.length ≤ 17592186044416 then (bloom_any l0_1 K).bind fun b => some (!b) else none) else some true
theorem bloom_May.mono : ∀ a0 a1 a2 k, LeO (bloom_May.f k a0 a1 a2) (bloom_May.f (k + 1) a0 a1 a2) := by
 intro a0 a1 a2 k
 unfold bloom_May.f
 exact LeO.bind (LeO.refl _) (fun _ => LeO.ite (LeO.bind (bloom_spots.mono _ _ _) (fun _ => LeO.refl _)) (LeO.refl _))
set_option maxHeartbeats 8000000 in
set_option maxRecDepth 100000 in
theorem bloom_May.calls (k : Nat) (a0_0 : Int) (A0_1 : Option Addr) (c0_1 : Nat) (l0_1 : List Int) (a1 : ByteArray) (r : Bool) (w : World) (hr0_1 : Kd.C (Kd.int .u8) w A0_1 l0_1.length l0_1) (hc0_1 : l0_1.length ≤ c0_1) (h : bloom_May.f k a0_0 l0_1 a1 = some r) :
  Calls Try.prog 11 #[.agg #[.int .i64 a0_0, .slice A0_1 l0_1.length c0_1], .string a1] w fun e w' => e = .returned (.bool r) ∧ Below w.heap.size w w' := by
 have hu26 := Try.underlying26
 have HR0 := Aside0.mk (Kd.C_alloc hr0_1 (.cells #[.int .i64 a0_0, .slice A0_1 l0_1.length c0_1] 26))
 have HC0 := Aside0.mk hc0_1
 have HB1 := Aside0.mk (below_alloc (Below.refl w.heap.size w) (.cells #[.int .i64 a0_0, .slice A0_1 l0_1.length c0_1] 26))
 have hv0 : (w.alloc (.cells #[.int .i64 a0_0, .slice A0_1 l0_1.length c0_1] 26)).cell? ⟨w.heap.size, 0, none⟩ = some (.int .i64 a0_0) := by
  have h_ := blk_new w (.cells #[.int .i64 a0_0, .slice A0_1 l0_1.length c0_1] 26)
  unfold World.cell?
  rw [h_]
  rfl
 have hv1 : (w.alloc (.cells #[.int .i64 a0_0, .slice A0_1 l0_1.length c0_1] 26)).cell? ⟨w.heap.size, 1, none⟩ = some (.slice A0_1 l0_1.length c0_1) := by
  have h_ := blk_new w (.cells #[.int .i64 a0_0, .slice A0_1 l0_1.length c0_1] 26)
  unfold World.cell?
  rw [h_]
  rfl
 have hmf : ∀ (fn : Fn) (first cap : Array Value) (w : World), (Instr.makeFunc fn first cap).run Try.prog w = .ok (.func fn first cap) w := fun _ _ _ _ => rfl
 clear hr0_1 hc0_1
 have H := h
 clear h
 unfold bloom_May.f at H
 obtain ⟨t, At, H⟩ := Option.bind_eq_some_iff.mp H
 replace At := Aside0.mk At
 cases t with
 | false =>
  rw [if_neg (by decide)] at H
  obtain rfl := Option.some.inj H
  clear H
  go_enter Try.func11, Try.ntmps11
  go_wp2_with (go_at_call 13; refine (bloom_Right.calls a0_0 _ _ l0_1 false _ HR0.out HC0.out At.out).mono ?_; rintro e w2 ⟨rfl, hb2⟩; have hx0 := (hb2.cell (World.block_lt_of_cell? _ _ hv0)).trans hv0; have hx1 := (hb2.cell (World.block_lt_of_cell? _ _ hv1)).trans hv1; have HB2 := Aside0.mk (below_step HB1.out hb2); clear hb2)
  go_ret
  exact ⟨rfl, by repeat (first | (with_reducible first | exact HB2.out | apply below_alloc | apply pw_below_drewN | apply below_drew1) | exact HB2.out)⟩
 | true =>
  rw [if_pos rfl] at H
  obtain ⟨K, AK, H⟩ := Option.bind_eq_some_iff.mp H
  by_cases hl : K.length ≤ 17592186044416
  ·rw [if_pos hl] at H
   obtain ⟨b, Ab, H⟩ := Option.bind_eq_some_iff.mp H
   obtain rfl := Option.some.inj H
   have HL : Aside0 (K.length ≤ 9223372036854775807) := ⟨by omega⟩
   replace AK := Aside0.mk AK
   replace Ab := Aside0.mk Ab
   clear H hl
   go_enter Try.func11, Try.ntmps11
   go_wp2_with (first
    | (go_at_call 13; refine (bloom_Right.calls a0_0 _ _ l0_1 true _ HR0.out HC0.out At.out).mono ?_; rintro e w2 ⟨rfl, hb2⟩; have hx0 := (hb2.cell (World.block_lt_of_cell? _ _ hv0)).trans hv0; have hx1 := (hb2.cell (World.block_lt_of_cell? _ _ hv1)).trans hv1; have HB2 := Aside0.mk (below_step HB1.out hb2); have HR2 := Aside0.mk (Kd.C_below HR0.out hb2); clear hb2)
    | (go_at_call 26; refine (bloom_spots.calls k a1 a0_0 K _ AK.out).mono ?_; rintro e w3 ⟨v3, rfl, ho3, hb3⟩; obtain ⟨A3, c3, e3⟩ := Kd.R_slice ho3; subst e3; have hy1 := (hb3.cell (World.block_lt_of_cell? _ _ hx1)).trans hx1; have HB3 := Aside0.mk (below_step HB2.out hb3); have HR3 := Aside0.mk (Kd.C_below HR2.out hb3); have HO3 := Aside0.mk ho3; clear hb3 ho3)
    | (go_at_call 27; refine (slices_ContainsFunc_bit _ _ K _ _ l0_1 _ b _ (Kd.R_reads' HO3.out).2.2 HL.out HR3.out HC0.out hy1 Ab.out).mono ?_; rintro e w4 ⟨rfl, ⟨m4, rfl⟩⟩))
   go_ret
   exact ⟨rfl, by repeat (first | (with_reducible first | exact HB3.out | apply below_alloc | apply pw_below_drewN | apply below_drew1) | exact HB3.out)⟩
  ·rw [if_neg hl] at H
   cases H

end Go.Proofs.Ytifcocmmapgebaa.QBloomTells
