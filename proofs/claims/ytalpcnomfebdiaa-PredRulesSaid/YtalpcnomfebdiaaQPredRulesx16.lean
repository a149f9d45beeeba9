-- Written by a program of this session (wip/myprint.py): the machine's side of a law
import Derived.Test.YtalpcnomfebdiaaQPredRulesx0
import Derived.Test.YtalpcnomfebdiaaQPredRulesx1
import Derived.Test.YtalpcnomfebdiaaQPredRulesx5
import Derived.Test.YtalpcnomfebdiaaQPredRulesx10
import Derived.Test.YtalpcnomfebdiaaQPredRulesx11
import Derived.Test.YtalpcnomfebdiaaQPredRulesx12
import Derived.Test.YtalpcnomfebdiaaQPredRulesx13
import Derived.Test.YtalpcnomfebdiaaQPredRulesx14
import Derived.Test.YtalpcnomfebdiaaQPredRulesx15
namespace Go.Proofs.Ytalpcnomfebdiaa.QPredRules
open Go.RowKit Go.Proofs.YtalpcnomfebdiaaW.PrintWords Go.Proofs.YtalpcnomfebdiaaW.PrintLast Go.Proofs.YtalpcnomfebdiaaW.PrintMore
attribute [local go_sem] max2_int min2_int max_two min_two max_three min_three max_four min_four   -- for this text's walks alone
set_option linter.unusedVariables false
set_option linter.unusedSimpArgs false
set_option maxHeartbeats 8000000 in
set_option maxRecDepth 100000 in
theorem columbariumlaw13_PredRules.calls (k : Nat) (a0_0 : Int) (a0_1 : ByteArray) (a0_2 : Int) (a0_3 : Int) (a0_4 : ByteArray) (A0_5 : Option Addr) (c0_5 : Nat) (l0_5 : List ByteArray) (A0_6 : Option Addr) (c0_6 : Nat) (l0_6 : List (S25)) (a1_0 : Int) (a1_1 : Int) (A1_2 : Option Addr) (c1_2 : Nat) (l1_2 : List (S52)) (a2 : Int) (a3 : ByteArray) (r : Bool) (w : World) (hr0_5 : Kd.C Kd.string w A0_5 l0_5.length l0_5) (hc0_5 : l0_5.length ≤ c0_5) (hr0_6 : Kd.C k25 w A0_6 l0_6.length l0_6) (hc0_6 : l0_6.length ≤ c0_6) (hr1_2 : Kd.C k52 w A1_2 l1_2.length l1_2) (hc1_2 : l1_2.length ≤ c1_2) (hrt_ : Aside0 (r = true)) (h : columbariumlaw13_PredRules.f k a0_0 a0_1 a0_2 a0_3 a0_4 l0_5 l0_6 a1_0 a1_1 l1_2 a2 a3 = some r) :
  Calls Try.prog 6 #[.agg #[.int .i64 a0_0, .string a0_1, .int .i64 a0_2, .int .i64 a0_3, .string a0_4, .slice A0_5 l0_5.length c0_5, .slice A0_6 l0_6.length c0_6], .agg #[.int .i64 a1_0, .int .i64 a1_1, .slice A1_2 l1_2.length c1_2], .int .i64 a2, .string a3] w fun e w' => e = .returned (.bool r) ∧ Below w.heap.size w w' := by
 have hu25 := Try.underlying25
 have hu36 := Try.underlying36
 have hu52 := Try.underlying52
 have HR0_5 := zM hr0_5
 have HC0_5 := zM hc0_5
 clear hr0_5 hc0_5
 have HR0_6 := zM hr0_6
 have HC0_6 := zM hc0_6
 clear hr0_6 hc0_6
 have HR1_2 := zM hr1_2
 have HC1_2 := zM hc1_2
 clear hr1_2 hc1_2
 have HB := zM (Below.refl w.heap.size w)
 have H : ((columbariumkeep_Cut.f k a0_0 a0_1 a0_2 a0_3 a0_4 l0_5 l0_6 5).bind fun bt454 => ((columbariumkeep_Tame.f k a1_0 a1_1 l1_2 3).bind fun bt465 => ((pred_Right.f k bt454.1 bt454.2.1 bt454.2.2.1 bt454.2.2.2.1 bt454.2.2.2.2.1 bt454.2.2.2.2.2.1 bt454.2.2.2.2.2.2).bind fun t471 => (if t471 = true then ((pred_Cols.f k bt454.1 bt454.2.1 bt454.2.2.1 bt454.2.2.2.1 bt454.2.2.2.2.1 bt454.2.2.2.2.2.1 bt454.2.2.2.2.2.2).bind fun t472 => ((columbariumkeep_At.f bt465.1 9 ([] : List (S52))).bind fun bt475 => (columbariumlaw13_PredRules.l0 k a2 a3 t472 0 bt454.1 bt454.2.1 bt454.2.2.1 bt454.2.2.2.1 bt454.2.2.2.2.1 bt454.2.2.2.2.2.1 bt454.2.2.2.2.2.2 bt465.1 bt465.2.1 bt465.2.2 bt475.1 bt475.2.1 bt475.2.2))) else (columbariumlaw13_PredRules.j2 k a2 a3))))) = some r := h
 clear h
 replace H := Option.bind_eq_some_iff.mp H
 obtain ⟨⟨t454, t455, t456, t457, t458, t459, t462⟩, A50, H⟩ := H
 try dsimp only at H
 have A5 := zM A50
 clear A50
 replace H := Option.bind_eq_some_iff.mp H
 obtain ⟨⟨t465, t466, t467⟩, A60, H⟩ := H
 try dsimp only at H
 have A6 := zM A60
 clear A60
 replace H := Option.bind_eq_some_iff.mp H
 obtain ⟨t471, A70, H⟩ := H
 try dsimp only at H
 have A7 := zM A70
 clear A70
 have HC8 := zM H
 clear H
 go_enter Try.func6, Try.ntmps6
 go_upto_if 27 with (first | ((with_reducible refine gate_dst (N := 4) rfl ?_); refine box_event ?hg (N := 4) ?hd (cs := #[.int .i64 a0_0, .string a0_1, .int .i64 a0_2, .int .i64 a0_3, .string a0_4, .slice A0_5 l0_5.length c0_5, .slice A0_6 l0_6.length c0_6]) (t := 25) ?hr ?_; (case hd => rfl); (case hg => rfl); (case hr => first | (go_simp; done) | (go_simp; rfl)); intro gb452 hg w9 hbox hb; have BK452 := zM (hbox); have GW452 := zM ((by rw [hg]; exact (below_size (mB HB.out)) : w.heap.size ≤ gb452)); replace HB := zM (below_step (mB HB.out) hb); have GE452 := GW452; clear hb hbox hg) | ((with_reducible refine gate_dst (N := 5) rfl ?_); refine box_event ?hg (N := 5) ?hd (cs := #[.int .i64 a1_0, .int .i64 a1_1, .slice A1_2 l1_2.length c1_2]) (t := 36) ?hr ?_; (case hd => rfl); (case hg => rfl); (case hr => first | (go_simp; done) | (go_simp; rfl)); intro gb453 hg w10 hbox hb; have BK453 := zM (hbox); have GW453 := zM ((by rw [hg]; exact (below_size mZ) : w.heap.size ≤ gb453)); replace HB := zM (below_step mZ hb); have GE453 := GW453; have NB452_453 := zL BK452 hg; have NB453_452 := zG BK452 hg; replace BK452 := zK BK452 hb; clear hb hbox hg; have hnb11 := NB452_453.out; have hnc11 := NB453_452.out; obtain ⟨hcz12_0, hcz12_1, hcz12_2, hcz12_3, hcz12_4, hcz12_5, hcz12_6, hfz12_0, hfz12_1, hfz12_2, hfz12_3, hfz12_4, hfz12_5, hfz12_6⟩ := cells_7 BK452.out) | ((with_reducible refine gate_callee (f := 7) rfl ?_); refine goesL_ (some 23) rfl rfl Try.func7 (by kernel_rfl) rfl #[.agg #[.int .i64 a0_0, .string a0_1, .int .i64 a0_2, .int .i64 a0_3, .string a0_4, .slice A0_5 l0_5.length c0_5, .slice A0_6 l0_6.length c0_6], .int .i64 5] rfl yb ?_; (with_reducible refine (columbariumkeep_Cut.calls k a0_0 a0_1 a0_2 a0_3 a0_4 _ _ l0_5 _ _ l0_6 5 t454 t455 t456 t457 t458 t459 t462 _ ?side1 ?side2 ?side3 ?side4 A5.out).mono ?_); (case side1 => exact zC (Kd.C_below HR0_5.out HB.out)); (case side2 => first | exact HC0_5.out | exact Kd.V_mono HC0_5.out (fun k_ hk_ => by grind)); (case side3 => exact zC (Kd.C_below HR0_6.out HB.out)); (case side4 => first | exact HC0_6.out | exact Kd.V_mono HC0_6.out (fun k_ hk_ => by grind)); rintro e w13 ⟨v460, v463, rfl, ho0, ho1, hb⟩; refine ⟨_, rfl, ?_⟩; have HO461 := zM (Kd.R_lower ho0 (below_size mZ)); have HO464 := zM (Kd.R_lower (Kd.R_newB ho1 (mK BK452.out)) (below_size mZ)); replace BK452 := zK BK452 hb; replace BK453 := zK BK453 hb; replace HB := zM (below_step mZ hb); (try clear hb); (try clear ho0); (try clear ho1); obtain ⟨hcz14_0, hcz14_1, hcz14_2, hcz14_3, hcz14_4, hcz14_5, hcz14_6, hfz14_0, hfz14_1, hfz14_2, hfz14_3, hfz14_4, hfz14_5, hfz14_6⟩ := cells_7 BK452.out; obtain ⟨Ao15, co15, eo15⟩ := Kd.R_slice HO461.out; subst eo15; obtain ⟨Ao16, co16, eo16⟩ := Kd.R_slice HO464.out; subst eo16; obtain ⟨hcz17_0, hcz17_1, hcz17_2, hfz17_0, hfz17_1, hfz17_2⟩ := cells_3 BK453.out) | ((with_reducible refine gate_callee (f := 14) rfl ?_); refine goesL_ (some 25) rfl rfl Try.func14 (by kernel_rfl) rfl #[.agg #[.int .i64 a1_0, .int .i64 a1_1, .slice A1_2 l1_2.length c1_2], .int .i64 3] rfl yb ?_; (with_reducible refine (columbariumkeep_Tame.calls k a1_0 a1_1 _ _ l1_2 3 t465 t466 t467 _ ?side1 ?side2 A6.out).mono ?_); (case side1 => exact Kd.C_below HR1_2.out mZ); (case side2 => first | exact HC1_2.out | exact Kd.V_mono HC1_2.out (fun k_ hk_ => by grind)); rintro e w18 ⟨v468, rfl, ho0, hb⟩; refine ⟨_, rfl, ?_⟩; replace HO461 := zM (Kd.R_below (by (with_reducible repeat (first | apply Kd.R_alloc | apply Kd.R_drewN | apply Kd.R_drew)); exact (Kd.R_mono (zgR (Kd.R_types HO461.out BK452.out (by decide))) (fun _ h_ => h_.1))) hb); replace HO464 := zM (Kd.R_below (by (with_reducible repeat (first | apply Kd.R_alloc | apply Kd.R_drewN | apply Kd.R_drew)); exact (Kd.R_mono (zgR (Kd.R_mono HO464.out (fun k_ hk => (⟨hk, hk.2⟩ : _ ∧ k_ ≠ gb452)))) (fun _ h_ => h_.1))) hb); have HO469 := zM (Kd.R_lower ho0 (below_size mZ)); replace BK452 := zP7 BK452 hb; replace BK453 := zM (blk_below (zF BK453.out NB453_452.out) hb); replace HB := zM (below_step mZ hb); (try clear hb); (try clear ho0)) | ((with_reducible refine gate_dst (N := 9) rfl ?_); refine box_event ?hg (N := 9) ?hd (cs := #[.int .i64 0, .int .i64 0, .slice none 0 0]) (t := 36) ?hr ?_; (case hd => rfl); (case hg => rfl); (case hr => first | (go_simp; done) | (go_simp; rfl)); intro gb470 hg w19 hbox hb; replace HO461 := zR HO461 hb; replace HO464 := zR HO464 hb; replace HO469 := zR HO469 hb; have BK470 := zM (hbox); have GW470 := zM ((by rw [hg]; exact (below_size mZ) : w.heap.size ≤ gb470)); replace HB := zM (below_step mZ hb); have GE470 := GW470; have NB452_470 := zL BK452 hg; have NB470_452 := zG BK452 hg; replace BK452 := zK BK452 hb; have NB453_470 := zL BK453 hg; have NB470_453 := zG BK453 hg; replace BK453 := zK BK453 hb; clear hb hbox hg; have hnb20 := NB470_452.out; have hnc20 := NB452_470.out; have hnb21 := NB470_453.out; have hnc21 := NB453_470.out; obtain ⟨hcz22_0, hcz22_1, hcz22_2, hfz22_0, hfz22_1, hfz22_2⟩ := cells_3 BK470.out; obtain ⟨Ao23, co23, eo23⟩ := Kd.R_slice HO469.out; subst eo23; obtain ⟨hcz24_0, hcz24_1, hcz24_2, hcz24_3, hcz24_4, hcz24_5, hcz24_6, hfz24_0, hfz24_1, hfz24_2, hfz24_3, hfz24_4, hfz24_5, hfz24_6⟩ := cells_7 BK452.out) | ((with_reducible refine gate_callee (f := 8) rfl ?_); refine goesL_ (some 27) rfl rfl Try.func8 (by kernel_rfl) rfl #[.agg #[.int .i64 t454, .string t455, .int .i64 t456, .int .i64 t457, .string t458, .slice Ao15 t459.length co15, .slice Ao16 t462.length co16]] rfl yb ?_; (with_reducible refine (pred_Right.calls k t454 t455 t456 t457 t458 _ _ t459 _ _ t462 t471 _ ?side1 ?side2 ?side3 ?side4 A7.out).mono ?_); (case side1 => refine (Kd.R_reads' (e := 9) (base := w.heap.size) (ok := fun k_ => True) (n := t459.length) (c := co15) ?_).2.2; exact (by (with_reducible repeat (first | apply Kd.R_alloc | apply Kd.R_drewN | apply Kd.R_drew)); exact (Kd.R_mono (zgR (Kd.R_types HO461.out BK470.out (by decide))) (fun _ h_ => h_.1)))); (case side2 => exact (Kd.R_reads' HO461.out).2.1); (case side3 => refine (Kd.R_reads' (e := 25) (base := w.heap.size) (ok := fun k_ => (nb k_ Ao15 t459.length co15 ∧ k_ ≠ gb452)) (n := t462.length) (c := co16) ?_).2.2; exact (by (with_reducible repeat (first | apply Kd.R_alloc | apply Kd.R_drewN | apply Kd.R_drew)); exact (Kd.R_mono (zgR (Kd.R_types HO464.out BK470.out (by decide))) (fun _ h_ => h_.1)))); (case side4 => exact (Kd.R_reads' HO464.out).2.1); rintro e w25 ⟨rfl, hb⟩; refine ⟨_, rfl, ?_⟩; replace HO461 := zM (Kd.R_below (by (with_reducible repeat (first | apply Kd.R_alloc | apply Kd.R_drewN | apply Kd.R_drew)); exact (Kd.R_mono (zgR (Kd.R_types HO461.out BK470.out (by decide))) (fun _ h_ => h_.1))) hb); replace HO464 := zM (Kd.R_below (by (with_reducible repeat (first | apply Kd.R_alloc | apply Kd.R_drewN | apply Kd.R_drew)); exact (Kd.R_mono (zgR (Kd.R_types HO464.out BK470.out (by decide))) (fun _ h_ => h_.1))) hb); replace HO469 := zM (Kd.R_below (by (with_reducible repeat (first | apply Kd.R_alloc | apply Kd.R_drewN | apply Kd.R_drew)); exact (Kd.R_mono (zgR (Kd.R_types HO469.out BK470.out (by decide))) (fun _ h_ => h_.1))) hb); replace BK452 := zM (blk_below (zF BK452.out NB452_470.out) hb); replace BK453 := zM (blk_below (zF BK453.out NB453_470.out) hb); replace BK470 := zP3 BK470 hb; replace HB := zM (below_step mZ hb); (try clear hb)))
 (try simp only [Act.put, List.setIfInBounds_toArray, List.set_cons_zero, List.set_cons_succ])
 go_cut [] (fun wc => ∃ (kq : Nat), Aside0 (columbariumlaw13_PredRules.j2 kq a2 a3 = some r) ∧ Aside0 (kq ≤ k) ∧ Aside0 (Kd.R Kd.string 9 wc w.heap.size (fun _ => True) (.slice Ao15 t459.length co15) t459) ∧ Aside0 (Kd.R k25 25 wc w.heap.size (fun k_ => nb k_ Ao15 t459.length co15 ∧ k_ ≠ gb452) (.slice Ao16 t462.length co16) t462) ∧ Aside0 (Kd.R k52 52 wc w.heap.size (fun _ => True) (.slice Ao23 t467.length co23) t467) ∧ Aside0 (wc.heap[gb452]? = some (.cells #[.int .i64 t454, .string t455, .int .i64 t456, .int .i64 t457, .string t458, (.slice Ao15 t459.length co15), (.slice Ao16 t462.length co16)] 25 (0, 0))) ∧ Aside0 (wc.heap[gb470]? = some (.cells #[.int .i64 t465, .int .i64 t466, (.slice Ao23 t467.length co23)] 36 (0, 0))) ∧ Aside0 (Below w.heap.size w wc))
 case first =>
  have H := HC8.out
  clear HC8
  by_cases c26 : t471 = true
  ·subst c26
   rw [if_pos rfl] at H
   replace H := Option.bind_eq_some_iff.mp H
   obtain ⟨t472, A270, H⟩ := H
   try dsimp only at H
   have A27 := zM A270
   clear A270
   replace H := Option.bind_eq_some_iff.mp H
   obtain ⟨⟨t475, t476, t477⟩, A280, H⟩ := H
   try dsimp only at H
   have A28 := zM A280
   clear A280
   have H' := Aside0.mk H
   clear H
   have hnb29 := NB452_453.out
   have hnc29 := NB453_452.out
   have hnb30 := NB452_470.out
   have hnc30 := NB470_452.out
   obtain ⟨hcz31_0, hcz31_1, hcz31_2, hcz31_3, hcz31_4, hcz31_5, hcz31_6, hfz31_0, hfz31_1, hfz31_2, hfz31_3, hfz31_4, hfz31_5, hfz31_6⟩ := cells_7 BK452.out
   go_wp2_with (first | ((with_reducible refine gate_callee (f := 21) rfl ?_); refine goesL_ (some 29) rfl rfl Try.func21 (by kernel_rfl) rfl #[.agg #[.int .i64 t454, .string t455, .int .i64 t456, .int .i64 t457, .string t458, .slice Ao15 t459.length co15, .slice Ao16 t462.length co16]] rfl yb ?_; (with_reducible refine (pred_Cols.calls k t454 t455 t456 t457 t458 _ _ t459 _ _ t462 t472 _ ?side1 ?side2 ?side3 ?side4 A27.out).mono ?_); (case side1 => exact zC ((Kd.R_reads' HO461.out).2.2)); (case side2 => exact (Kd.R_reads' HO461.out).2.1); (case side3 => exact zC ((Kd.R_reads' HO464.out).2.2)); (case side4 => exact (Kd.R_reads' HO464.out).2.1); rintro e w32 ⟨v473, rfl, ho0, hb⟩; refine ⟨_, rfl, ?_⟩; replace HO464 := zM (Kd.R_elder' (mR HO464.out) (Kd.R_base ho0) hb); replace HO469 := zR HO469 hb; have HO474 := zM (Kd.R_lower (Kd.R_new' ho0 (Kd.R_lt (mR HO461.out))) (below_size mZ)); replace HO461 := zM (Kd.R_elder' (mR HO461.out) (Kd.R_base ho0) hb); replace BK452 := zK BK452 hb; replace BK453 := zK BK453 hb; replace BK470 := zK BK470 hb; replace HB := zM (below_step mZ hb); (try clear hb); (try clear ho0); have hnb33 := NB470_453.out; have hnc33 := NB453_470.out; obtain ⟨hcz34_0, hcz34_1, hcz34_2, hfz34_0, hfz34_1, hfz34_2⟩ := cells_3 BK470.out) | ((with_reducible refine gate_callee (f := 22) rfl ?_); refine goesL_ (some 32) rfl rfl Try.func22 (by kernel_rfl) rfl #[.int .i64 t465, .int .i64 9, .slice none 0 0] rfl yb ?_; (refine (columbariumkeep_At.calls t465 9 _ _ ([] : List (S52)) t475 t476 t477 _ ?side1 ?side2 A28.out).mono ?_); (case side1 => exact Kd.C_nil _ _); (case side2 => exact Nat.le_refl _); rintro e w35 ⟨v478, rfl, ho0, hb⟩; refine ⟨_, rfl, ?_⟩; replace HO461 := zR HO461 hb; replace HO464 := zR HO464 hb; replace HO474 := zR HO474 hb; have HO479 := zM (Kd.R_lower (Kd.R_new' ho0 (Kd.R_lt (mR HO469.out))) (below_size mZ)); replace HO469 := zM (Kd.R_elder' (mR HO469.out) (Kd.R_base ho0) hb); replace BK452 := zK BK452 hb; replace BK453 := zK BK453 hb; replace BK470 := zK BK470 hb; replace HB := zM (below_step mZ hb); (try clear hb); (try clear ho0)) | ((with_reducible refine gate_dst (N := 11) rfl ?_); refine box_event ?hg (N := 11) ?hd (cs := #[.int .i64 0, .int .i64 0, .slice none 0 0]) (t := 36) ?hr ?_; (case hd => rfl); (case hg => rfl); (case hr => first | (go_simp; done) | (go_simp; rfl)); intro gb480 hg w36 hbox hb; replace HO461 := zR HO461 hb; replace HO464 := zR HO464 hb; replace HO469 := zR HO469 hb; replace HO474 := zR HO474 hb; replace HO479 := zR HO479 hb; have BK480 := zM (hbox); have GW480 := zM ((by rw [hg]; exact (below_size mZ) : w.heap.size ≤ gb480)); replace HB := zM (below_step mZ hb); have GE480 := GW480; have NB452_480 := zL BK452 hg; have NB480_452 := zG BK452 hg; replace BK452 := zK BK452 hb; have NB453_480 := zL BK453 hg; have NB480_453 := zG BK453 hg; replace BK453 := zK BK453 hb; have NB470_480 := zL BK470 hg; have NB480_470 := zG BK470 hg; replace BK470 := zK BK470 hb; clear hb hbox hg; have hnb37 := NB480_452.out; have hnc37 := NB452_480.out; have hnb38 := NB480_453.out; have hnc38 := NB453_480.out; have hnb39 := NB480_470.out; have hnc39 := NB470_480.out; obtain ⟨hcz40_0, hcz40_1, hcz40_2, hfz40_0, hfz40_1, hfz40_2⟩ := cells_3 BK480.out; obtain ⟨Ao41, co41, eo41⟩ := Kd.R_slice HO479.out; subst eo41))
   try simp only [Act.put, List.setIfInBounds_toArray, List.set_cons_zero, List.set_cons_succ]
   go_loopg [12] k (fun kq v12 w' => ∃ (x12_1 : Int) (x481002_1 : List (S52)) (u481002 : Value), v12 = .int .i64 x12_1 ∧ Aside0 (columbariumlaw13_PredRules.l0 kq a2 a3 t472 x12_1 t454 t455 t456 t457 t458 t459 t462 t465 t466 t467 t475 t476 x481002_1 = some r) ∧ Aside0 (kq ≤ k) ∧ Aside0 (Kd.R Kd.string 9 w' w.heap.size (fun k_ => nb k_ Ao15 t459.length co15) v473 t472) ∧ Aside0 (Kd.R Kd.string 9 w' w.heap.size (fun k_ => some k_ ≠ (v473 : Value).ownBlock) (.slice Ao15 t459.length co15) t459) ∧ Aside0 (Kd.R k25 25 w' w.heap.size (fun k_ => some k_ ≠ (v473 : Value).ownBlock ∧ nb k_ Ao15 t459.length co15 ∧ k_ ≠ gb452) (.slice Ao16 t462.length co16) t462) ∧ Aside0 (Kd.R k52 52 w' w.heap.size (fun k_ => some k_ ≠ (u481002 : Value).ownBlock) (.slice Ao23 t467.length co23) t467) ∧ Aside0 (Kd.R k52 52 w' w.heap.size (fun k_ => nb k_ Ao23 t467.length co23) u481002 x481002_1) ∧ Aside0 (w'.heap[gb452]? = some (.cells #[.int .i64 t454, .string t455, .int .i64 t456, .int .i64 t457, .string t458, (.slice Ao15 t459.length co15), (.slice Ao16 t462.length co16)] 25 (0, 0))) ∧ Aside0 (w'.heap[gb453]? = some (.cells #[.int .i64 a1_0, .int .i64 a1_1, (.slice A1_2 l1_2.length c1_2)] 36 (0, 0))) ∧ Aside0 (w'.heap[gb470]? = some (.cells #[.int .i64 t465, .int .i64 t466, (.slice Ao23 t467.length co23)] 36 (0, 0))) ∧ Aside0 (w'.heap[gb480]? = some (.cells #[.int .i64 t475, .int .i64 t476, u481002] 36 (0, 0))) ∧ Aside0 (Below w.heap.size w w'))
   case atStart => exact ⟨(0), (t477), (.slice Ao41 t477.length co41), ya, H', ⟨Nat.le_refl _⟩, ⟨by (with_reducible repeat (first | apply Kd.R_alloc | apply Kd.R_drewN | apply Kd.R_drew)); exact Kd.R_mono (zgR (Kd.R_types HO474.out BK480.out (by decide))) (fun _ hk => hk.1.2)⟩, ⟨by (with_reducible repeat (first | apply Kd.R_alloc | apply Kd.R_drewN | apply Kd.R_drew)); exact Kd.R_mono (zgR (Kd.R_types HO461.out BK480.out (by decide))) (fun _ hk => hk.1.2)⟩, ⟨by (with_reducible repeat (first | apply Kd.R_alloc | apply Kd.R_drewN | apply Kd.R_drew)); exact Kd.R_mono (zgR (Kd.R_types HO464.out BK480.out (by decide))) (fun _ hk => ⟨hk.1.2, ⟨hk.1.1.1, hk.1.1.2⟩⟩)⟩, ⟨by (with_reducible repeat (first | apply Kd.R_alloc | apply Kd.R_drewN | apply Kd.R_drew)); exact Kd.R_mono (zgR (Kd.R_types HO469.out BK480.out (by decide))) (fun _ hk => hk.1.2)⟩, ⟨by (with_reducible repeat (first | apply Kd.R_alloc | apply Kd.R_drewN | apply Kd.R_drew)); exact Kd.R_mono (zgR (Kd.R_types HO479.out BK480.out (by decide))) (fun _ hk => hk.1.2)⟩, ⟨by (with_reducible repeat (first | refine blk_drewN ?_ _ | refine blk_drew ?_ | refine blk_alloc ?_ _)); refine blk_far ?_ NB452_480.out _; refine blk_far ?_ NB452_480.out _; refine blk_far ?_ NB452_480.out _; (with_reducible repeat (first | refine blk_drewN ?_ _ | refine blk_drew ?_ | refine blk_alloc ?_ _)); exact BK452.out⟩, ⟨by (with_reducible repeat (first | refine blk_drewN ?_ _ | refine blk_drew ?_ | refine blk_alloc ?_ _)); refine blk_far ?_ NB453_480.out _; refine blk_far ?_ NB453_480.out _; refine blk_far ?_ NB453_480.out _; (with_reducible repeat (first | refine blk_drewN ?_ _ | refine blk_drew ?_ | refine blk_alloc ?_ _)); exact BK453.out⟩, ⟨by (with_reducible repeat (first | refine blk_drewN ?_ _ | refine blk_drew ?_ | refine blk_alloc ?_ _)); refine blk_far ?_ NB470_480.out _; refine blk_far ?_ NB470_480.out _; refine blk_far ?_ NB470_480.out _; (with_reducible repeat (first | refine blk_drewN ?_ _ | refine blk_drew ?_ | refine blk_alloc ?_ _)); exact BK470.out⟩, ⟨by (with_reducible repeat (first | refine blk_drewN ?_ _ | refine blk_drew ?_ | refine blk_alloc ?_ _)); apply puts_3; (with_reducible repeat (first | refine blk_drewN ?_ _ | refine blk_drew ?_ | refine blk_alloc ?_ _)); exact BK480.out⟩, ⟨mZ⟩⟩
   case round =>
    clear H'
    try clear c26
    try clear hcz12_0
    try clear hcz12_1
    try clear hcz12_2
    try clear hcz12_3
    try clear hcz12_4
    try clear hcz12_5
    try clear hcz12_6
    try clear hcz14_0
    try clear hcz14_1
    try clear hcz14_2
    try clear hcz14_3
    try clear hcz14_4
    try clear hcz14_5
    try clear hcz14_6
    try clear hcz17_0
    try clear hcz17_1
    try clear hcz17_2
    try clear hcz22_0
    try clear hcz22_1
    try clear hcz22_2
    try clear hcz24_0
    try clear hcz24_1
    try clear hcz24_2
    try clear hcz24_3
    try clear hcz24_4
    try clear hcz24_5
    try clear hcz24_6
    try clear hcz31_0
    try clear hcz31_1
    try clear hcz31_2
    try clear hcz31_3
    try clear hcz31_4
    try clear hcz31_5
    try clear hcz31_6
    try clear hcz34_0
    try clear hcz34_1
    try clear hcz34_2
    try clear hcz40_0
    try clear hcz40_1
    try clear hcz40_2
    try clear hfz12_0
    try clear hfz12_1
    try clear hfz12_2
    try clear hfz12_3
    try clear hfz12_4
    try clear hfz12_5
    try clear hfz12_6
    try clear hfz14_0
    try clear hfz14_1
    try clear hfz14_2
    try clear hfz14_3
    try clear hfz14_4
    try clear hfz14_5
    try clear hfz14_6
    try clear hfz17_0
    try clear hfz17_1
    try clear hfz17_2
    try clear hfz22_0
    try clear hfz22_1
    try clear hfz22_2
    try clear hfz24_0
    try clear hfz24_1
    try clear hfz24_2
    try clear hfz24_3
    try clear hfz24_4
    try clear hfz24_5
    try clear hfz24_6
    try clear hfz31_0
    try clear hfz31_1
    try clear hfz31_2
    try clear hfz31_3
    try clear hfz31_4
    try clear hfz31_5
    try clear hfz31_6
    try clear hfz34_0
    try clear hfz34_1
    try clear hfz34_2
    try clear hfz40_0
    try clear hfz40_1
    try clear hfz40_2
    try clear BK452
    try clear BK453
    try clear BK470
    try clear BK480
    obtain ⟨x12_1, x481002_1, u481002, rfl, HA, HK1, HO_10, HO_453005, HO_453006, HO_471002, HO_481002, BK452, BK453, BK470, BK480, HB⟩ := hrel
    cases gk with
    | zero => exact absurd HA.out (by simp [columbariumlaw13_PredRules.l0])
    | succ k1 =>
     have H := HA.out
     clear HA
     simp only [columbariumlaw13_PredRules.l0] at H
     by_cases c42 : x12_1 < (t467.length : Int)
     ·rw [if_pos c42] at H
      have c42b0 : decide (x12_1 < (t467.length : Int)) = true := decide_eq_true c42
      clear c42
      (first | rw [c42b0] | rw [c42b1] | (simp only [i64_w, i32_w]; rw [c42b0]) | skip)
      have H' := Aside0.mk H
      clear H
      have hnb43 := NB470_452.out
      have hnc43 := NB452_470.out
      have hnb44 := NB470_453.out
      have hnc44 := NB453_470.out
      have hnb45 := NB470_480.out
      have hnc45 := NB480_470.out
      obtain ⟨hcz46_0, hcz46_1, hcz46_2, hfz46_0, hfz46_1, hfz46_2⟩ := cells_3 BK470.out
      go_wp2
      go_loopg [13] k1 (fun kq v13 w' => ∃ (x13_2 : Int) (x481002_2 : List (S52)) (u481002 : Value), v13 = .int .i64 x13_2 ∧ Aside0 (columbariumlaw13_PredRules.l1 kq a2 a3 t472 x12_1 x13_2 t454 t455 t456 t457 t458 t459 t462 t465 t466 t467 t475 t476 x481002_2 = some r) ∧ Aside0 (kq ≤ k1) ∧ Aside0 (Kd.R Kd.string 9 w' w.heap.size (fun k_ => nb k_ Ao15 t459.length co15) v473 t472) ∧ Aside0 (Kd.R Kd.string 9 w' w.heap.size (fun k_ => some k_ ≠ (v473 : Value).ownBlock) (.slice Ao15 t459.length co15) t459) ∧ Aside0 (Kd.R k25 25 w' w.heap.size (fun k_ => some k_ ≠ (v473 : Value).ownBlock ∧ nb k_ Ao15 t459.length co15 ∧ k_ ≠ gb452) (.slice Ao16 t462.length co16) t462) ∧ Aside0 (Kd.R k52 52 w' w.heap.size (fun k_ => some k_ ≠ (u481002 : Value).ownBlock) (.slice Ao23 t467.length co23) t467) ∧ Aside0 (Kd.R k52 52 w' w.heap.size (fun k_ => nb k_ Ao23 t467.length co23) u481002 x481002_2) ∧ Aside0 (w'.heap[gb452]? = some (.cells #[.int .i64 t454, .string t455, .int .i64 t456, .int .i64 t457, .string t458, (.slice Ao15 t459.length co15), (.slice Ao16 t462.length co16)] 25 (0, 0))) ∧ Aside0 (w'.heap[gb453]? = some (.cells #[.int .i64 a1_0, .int .i64 a1_1, (.slice A1_2 l1_2.length c1_2)] 36 (0, 0))) ∧ Aside0 (w'.heap[gb470]? = some (.cells #[.int .i64 t465, .int .i64 t466, (.slice Ao23 t467.length co23)] 36 (0, 0))) ∧ Aside0 (w'.heap[gb480]? = some (.cells #[.int .i64 t475, .int .i64 t476, u481002] 36 (0, 0))) ∧ Aside0 (Below w.heap.size w w'))
      case atStart => exact ⟨(0), (x481002_1), (u481002), ya, H', ⟨Nat.le_refl _⟩, ⟨mR HO_10.out⟩, ⟨mR HO_453005.out⟩, ⟨mR HO_453006.out⟩, ⟨mR HO_471002.out⟩, ⟨mR HO_481002.out⟩, ⟨mK BK452.out⟩, ⟨mK BK453.out⟩, ⟨mK BK470.out⟩, ⟨mK BK480.out⟩, ⟨mZ⟩⟩
      case round =>
       clear H'
       try clear c26
       try clear c42
       try clear c42b0
       try clear c42b1
       try clear hcz12_0
       try clear hcz12_1
       try clear hcz12_2
       try clear hcz12_3
       try clear hcz12_4
       try clear hcz12_5
       try clear hcz12_6
       try clear hcz14_0
       try clear hcz14_1
       try clear hcz14_2
       try clear hcz14_3
       try clear hcz14_4
       try clear hcz14_5
       try clear hcz14_6
       try clear hcz17_0
       try clear hcz17_1
       try clear hcz17_2
       try clear hcz22_0
       try clear hcz22_1
       try clear hcz22_2
       try clear hcz24_0
       try clear hcz24_1
       try clear hcz24_2
       try clear hcz24_3
       try clear hcz24_4
       try clear hcz24_5
       try clear hcz24_6
       try clear hcz31_0
       try clear hcz31_1
       try clear hcz31_2
       try clear hcz31_3
       try clear hcz31_4
       try clear hcz31_5
       try clear hcz31_6
       try clear hcz34_0
       try clear hcz34_1
       try clear hcz34_2
       try clear hcz40_0
       try clear hcz40_1
       try clear hcz40_2
       try clear hcz46_0
       try clear hcz46_1
       try clear hcz46_2
       try clear hfz12_0
       try clear hfz12_1
       try clear hfz12_2
       try clear hfz12_3
       try clear hfz12_4
       try clear hfz12_5
       try clear hfz12_6
       try clear hfz14_0
       try clear hfz14_1
       try clear hfz14_2
       try clear hfz14_3
       try clear hfz14_4
       try clear hfz14_5
       try clear hfz14_6
       try clear hfz17_0
       try clear hfz17_1
       try clear hfz17_2
       try clear hfz22_0
       try clear hfz22_1
       try clear hfz22_2
       try clear hfz24_0
       try clear hfz24_1
       try clear hfz24_2
       try clear hfz24_3
       try clear hfz24_4
       try clear hfz24_5
       try clear hfz24_6
       try clear hfz31_0
       try clear hfz31_1
       try clear hfz31_2
       try clear hfz31_3
       try clear hfz31_4
       try clear hfz31_5
       try clear hfz31_6
       try clear hfz34_0
       try clear hfz34_1
       try clear hfz34_2
       try clear hfz40_0
       try clear hfz40_1
       try clear hfz40_2
       try clear hfz46_0
       try clear hfz46_1
       try clear hfz46_2
       try clear BK452
       try clear BK453
       try clear BK470
       try clear BK480
       obtain ⟨x13_2, x481002_2, u481002, rfl, HA, HK2, HO_10, HO_453005, HO_453006, HO_471002, HO_481002, BK452, BK453, BK470, BK480, HB⟩ := hrel
       cases gk with
       | zero => exact absurd HA.out (by simp [columbariumlaw13_PredRules.l1])
       | succ k2 =>
        have H := HA.out
        clear HA
        simp only [columbariumlaw13_PredRules.l1] at H
        by_cases c47 : x13_2 < (t472.length : Int)
        ·rw [if_pos c47] at H
         have c47b0 : decide (x13_2 < (t472.length : Int)) = true := decide_eq_true c47
         clear c47
         by_cases c48 : 0 ≤ x13_2
         ·rw [if_pos c48] at H
          have c48b0 : decide (0 ≤ x13_2) = true := decide_eq_true c48
          clear c48
          by_cases c49 : 0 ≤ x12_1
          ·rw [if_pos c49] at H
           have c49b0 : decide (0 ≤ x12_1) = true := decide_eq_true c49
           clear c49
           by_cases c50 : x12_1 < (t467.length : Int)
           ·rw [if_pos c50] at H
            have c50b0 : decide (x12_1 < (t467.length : Int)) = true := decide_eq_true c50
            clear c50
            by_cases c51 : (rdOf ByteArray.empty t472 x13_2).toList = ((rd_T52 t467 x12_1).f0).toList
            ·rw [if_pos c51] at H
             have c51b0 : ((rdOf ByteArray.empty t472 x13_2).toList == ((rd_T52 t467 x12_1).f0).toList) = true := beq_iff_eq.mpr c51
             have c51b1 : ((rdOf ByteArray.empty t472 x13_2).toList != ((rd_T52 t467 x12_1).f0).toList) = false := bne_eq_false_iff_eq.mpr c51
             clear c51
             by_cases c52 : x481002_2.length < 2932031007402
             ·rw [if_pos c52] at H
              have LMc52 := zM c52
              clear c52
              obtain ⟨y484, hy484⟩ : ∃ y_ : List (S52), y_ = (x481002_2 ++ [(⟨(rd_T52 t467 x12_1).f0, (rd_T52 t467 x12_1).f1, (rd_T52 t467 x12_1).f2, (rd_T52 t467 x12_1).f3⟩ : S52)]) := ⟨_, rfl⟩
              replace H : (columbariumlaw13_PredRules.l1 k2 a2 a3 t472 x12_1 (wrap64 (x13_2 + 1)) t454 t455 t456 t457 t458 t459 t462 t465 t466 t467 t475 t476 y484) = some r := by first | (rw [hy484]; with_reducible exact H) | (have H2_ := (Option.bind_some _ _).symm.trans H; rw [hy484]; with_reducible exact H2_) | (have H2_ := (Option.bind_some _ _).symm.trans H; with_reducible exact H2_) | with_reducible exact H | (rw [hy484]; exact H) | exact H
              have Ny484 := zM hy484
              clear hy484
              have H' := Aside0.mk H
              clear H
              obtain ⟨Ao53, co53, eo53⟩ := Kd.R_slice HO_10.out
              subst eo53
              try go_wp2
              replace HO_10 := zM (Kd.R_drew HO_10.out)
              replace HO_453005 := zM (Kd.R_drew HO_453005.out)
              replace HO_453006 := zM (Kd.R_drew HO_453006.out)
              replace HO_471002 := zM (Kd.R_drew HO_471002.out)
              replace HO_481002 := zM (Kd.R_drew HO_481002.out)
              replace BK452 := zM (blk_drew BK452.out)
              replace BK453 := zM (blk_drew BK453.out)
              replace BK470 := zM (blk_drew BK470.out)
              replace BK480 := zM (blk_drew BK480.out)
              replace HB := zM (below_drew1 HB.out)
              have p481 : 0 ≤ (x13_2 : Int) := zA
              have q481 : x13_2 < (t472.length : Int) := zA
              obtain ⟨ad481, e481, hx481_0⟩ := Kd.at_string (Kd.R_reads' HO_10.out).2.2 x13_2 p481 q481
              cases e481
              replace p481 := eq_true p481
              replace q481 := eq_true q481
              have p482 : 0 ≤ (x12_1 : Int) := zA
              have q482 : x12_1 < (t467.length : Int) := zA
              obtain ⟨ad482, e482, hx482_0, hx482_1, hx482_2, hx482_3⟩ := at_T52 (Kd.R_reads' HO_471002.out).2.2 x12_1 p482 q482
              cases e482
              replace p482 := eq_true p482
              replace q482 := eq_true q482
              refine start_ (n := 11) (S := fun w' => w'.cell? ⟨gb470, 0, none⟩ = some (.int .i64 t465) ∧ w'.cell? ⟨gb470, 1, none⟩ = some (.int .i64 t466) ∧ w'.cell? ⟨gb470, 2, none⟩ = some (.slice (some ad482) t467.length co23) ∧ w'.cell? (ad481.add (x13_2).toNat) = some (.string (rdOf ByteArray.empty t472 x13_2)) ∧ w'.cell? (ad482.add ((x12_1).toNat * 4)) = some (.string ((rd_T52 t467 x12_1).f0)) ∧ w'.cell? ⟨(ad482.add ((x12_1).toNat * 4)).block, (ad482.add ((x12_1).toNat * 4)).off + 1, none⟩ = some (.int .i64 ((rd_T52 t467 x12_1).f1)) ∧ w'.cell? ⟨(ad482.add ((x12_1).toNat * 4)).block, (ad482.add ((x12_1).toNat * 4)).off + 2, none⟩ = some (.int .i64 ((rd_T52 t467 x12_1).f2)) ∧ w'.cell? ⟨(ad482.add ((x12_1).toNat * 4)).block, (ad482.add ((x12_1).toNat * 4)).off + 3, none⟩ = some (.string ((rd_T52 t467 x12_1).f3))) (ds := []) #[false, false, false, false, false, false, false, false, false, false, false] (by kernel_rfl) rfl rfl (zI3 BK470 ⟨hx481_0, hx482_0, hx482_1, hx482_2, hx482_3⟩) (fun hHeld => ?_); refine with_tabW columbariumlaw13_PredRules.tab12 columbariumlaw13_PredRules.bits12 (fun HT_ HW_ => ?_)
              generalize wr.drew = w54 at HO_10 HO_453005 HO_453006 HO_471002 HO_481002 BK452 BK453 BK470 BK480 HB hx481_0 hx482_0 hx482_1 hx482_2 hx482_3 hHeld ⊢
              refine pure_ (i := 0) (N := some 46) (v := ?_) (a' := ?_) #[true, false, false, false, false, false, false, false, false, false, false] rfl rfl (any_of HT_.out (by kernel_rfl)) (fun _ _ _ h => h) (Or.inl ⟨by rfl, ?_⟩) ?_ ?_
              rotate_left
              ·intro w'
               go_simp
               with_reducible rfl
              rotate_left
              ·simp only [Act.put, List.setIfInBounds_toArray, List.set_cons_zero, List.set_cons_succ, i64_w, i32_w]
               rfl
              refine pure_ (i := 1) (N := some 47) (v := ?_) (a' := ?_) #[true, true, false, false, false, false, false, false, false, false, false] rfl rfl (any_of HT_.out (by kernel_rfl)) (fun _ _ _ h => h) (Or.inl ⟨by rfl, ?_⟩) ?_ ?_
              rotate_left
              ·intro w'
               go_simp
               with_reducible rfl
              rotate_left
              ·simp only [Act.put, List.setIfInBounds_toArray, List.set_cons_zero, List.set_cons_succ, i64_w, i32_w]
               rfl
              refine pure_ (i := 2) (N := some 48) (v := ?_) (a' := ?_) #[true, true, true, false, false, false, false, false, false, false, false] rfl rfl (any_of HT_.out (by kernel_rfl)) (fun _ _ _ h => h) (Or.inl ⟨by rfl, ?_⟩) ?_ ?_
              rotate_left
              ·intro w'
               go_simp
               with_reducible rfl
              rotate_left
              ·simp only [Act.put, List.setIfInBounds_toArray, List.set_cons_zero, List.set_cons_succ, i64_w, i32_w]
               rfl
              refine pure_ (i := 4) (N := some 50) (v := ?_) (a' := ?_) #[true, true, true, false, true, false, false, false, false, false, false] rfl rfl (any_of HT_.out (by kernel_rfl)) (fun _ _ _ h => h) (Or.inl ⟨by rfl, ?_⟩) ?_ ?_
              rotate_left
              ·intro w'
               go_simp
               with_reducible rfl
              rotate_left
              ·simp only [Act.put, List.setIfInBounds_toArray, List.set_cons_zero, List.set_cons_succ, i64_w, i32_w]
               rfl
              refine pure_ (i := 6) (N := some 52) (v := ?_) (a' := ?_) #[true, true, true, false, true, false, true, false, false, false, false] rfl rfl (any_of HT_.out (by kernel_rfl)) (fun _ _ _ h => h) (Or.inl ⟨by rfl, ?_⟩) ?_ ?_
              rotate_left
              ·intro w'
               go_simp
               with_reducible rfl
              rotate_left
              ·simp only [Act.put, List.setIfInBounds_toArray, List.set_cons_zero, List.set_cons_succ, i64_w, i32_w]
               rfl
              refine take_ (i := 3) (N := some 49) (v := ?_) (a' := ?_) #[true, true, true, true, true, false, true, false, false, false, false] rfl rfl (take_ofW HT_.out HW_.out (by kernel_rfl)) (fun _ _ _ h => h) (Or.inl ⟨by rfl, ?_⟩) hHeld ?_ ?_
              rotate_left
              ·rintro w' ⟨s0, s1, s2, s3, s4, s5, s6, s7⟩
               go_simp
               with_reducible rfl
              rotate_left
              ·simp only [Act.put, List.setIfInBounds_toArray, List.set_cons_zero, List.set_cons_succ, i64_w, i32_w]
               rfl
              refine take_ (i := 5) (N := some 51) (v := ?_) (a' := ?_) #[true, true, true, true, true, true, true, false, false, false, false] rfl rfl (take_ofW HT_.out HW_.out (by kernel_rfl)) (fun _ _ _ h => h) (Or.inl ⟨by rfl, ?_⟩) hHeld ?_ ?_
              rotate_left
              ·rintro w' ⟨s0, s1, s2, s3, s4, s5, s6, s7⟩
               go_simp
               with_reducible rfl
              rotate_left
              ·simp only [Act.put, List.setIfInBounds_toArray, List.set_cons_zero, List.set_cons_succ, i64_w, i32_w]
               rfl
              refine pure_ (i := 7) (N := some 53) (v := ?_) (a' := ?_) #[true, true, true, true, true, true, true, true, false, false, false] rfl rfl (any_of HT_.out (by kernel_rfl)) (fun _ _ _ h => h) (Or.inl ⟨by rfl, ?_⟩) ?_ ?_
              rotate_left
              ·intro w'
               go_simp
               with_reducible rfl
              rotate_left
              ·simp only [Act.put, List.setIfInBounds_toArray, List.set_cons_zero, List.set_cons_succ, i64_w, i32_w]
               rfl
              refine pure_ (i := 8) (N := some 54) (v := ?_) (a' := ?_) #[true, true, true, true, true, true, true, true, true, false, false] rfl rfl (any_of HT_.out (by kernel_rfl)) (fun _ _ _ h => h) (Or.inl ⟨by rfl, ?_⟩) ?_ ?_
              rotate_left
              ·intro w'
               go_simp
               with_reducible rfl
              rotate_left
              ·simp only [Act.put, List.setIfInBounds_toArray, List.set_cons_zero, List.set_cons_succ, i64_w, i32_w]
               rfl
              refine take_ (i := 9) (N := some 55) (v := ?_) (a' := ?_) #[true, true, true, true, true, true, true, true, true, true, false] rfl rfl (take_ofW HT_.out HW_.out (by kernel_rfl)) (fun _ _ _ h => h) (Or.inl ⟨by rfl, ?_⟩) hHeld ?_ ?_
              rotate_left
              ·rintro w' ⟨s0, s1, s2, s3, s4, s5, s6, s7⟩
               go_simp
               with_reducible rfl
              rotate_left
              ·simp only [Act.put, List.setIfInBounds_toArray, List.set_cons_zero, List.set_cons_succ, i64_w, i32_w]
               rfl
              refine pure_ (i := 10) (N := some 56) (v := ?_) (a' := ?_) #[true, true, true, true, true, true, true, true, true, true, true] rfl rfl (any_of HT_.out (by kernel_rfl)) (fun _ _ _ h => h) (Or.inl ⟨by rfl, ?_⟩) ?_ ?_
              rotate_left
              ·intro w'
               go_simp
               with_reducible rfl
              rotate_left
              ·simp only [Act.put, List.setIfInBounds_toArray, List.set_cons_zero, List.set_cons_succ, i64_w, i32_w]
               rfl
              refine done_ (done_of HT_.out (by kernel_rfl)) ?_
              try go_wp2
              replace HO_10 := zM (Kd.R_drew HO_10.out)
              replace HO_453005 := zM (Kd.R_drew HO_453005.out)
              replace HO_453006 := zM (Kd.R_drew HO_453006.out)
              replace HO_471002 := zM (Kd.R_drew HO_471002.out)
              replace HO_481002 := zM (Kd.R_drew HO_481002.out)
              replace BK452 := zM (blk_drew BK452.out)
              replace BK453 := zM (blk_drew BK453.out)
              replace BK470 := zM (blk_drew BK470.out)
              replace BK480 := zM (blk_drew BK480.out)
              replace HB := zM (below_drew1 HB.out)
              have p483 : 0 ≤ (x12_1 : Int) := zA
              have q483 : x12_1 < (t467.length : Int) := zA
              obtain ⟨ad483, e483, hx483_0, hx483_1, hx483_2, hx483_3⟩ := at_T52 (Kd.R_reads' HO_471002.out).2.2 x12_1 p483 q483
              obtain rfl : ad482 = ad483 := (by injection e483)
              replace p483 := eq_true p483
              replace q483 := eq_true q483
              refine start_ (n := 11) (S := fun w' => w'.cell? ⟨gb480, 0, none⟩ = some (.int .i64 t475) ∧ w'.cell? ⟨gb480, 1, none⟩ = some (.int .i64 t476) ∧ w'.cell? ⟨gb480, 2, none⟩ = some (u481002) ∧ w'.cell? ⟨gb470, 0, none⟩ = some (.int .i64 t465) ∧ w'.cell? ⟨gb470, 1, none⟩ = some (.int .i64 t466) ∧ w'.cell? ⟨gb470, 2, none⟩ = some (.slice (some ad482) t467.length co23) ∧ w'.cell? (ad482.add ((x12_1).toNat * 4)) = some (.string ((rd_T52 t467 x12_1).f0)) ∧ w'.cell? ⟨(ad482.add ((x12_1).toNat * 4)).block, (ad482.add ((x12_1).toNat * 4)).off + 1, none⟩ = some (.int .i64 ((rd_T52 t467 x12_1).f1)) ∧ w'.cell? ⟨(ad482.add ((x12_1).toNat * 4)).block, (ad482.add ((x12_1).toNat * 4)).off + 2, none⟩ = some (.int .i64 ((rd_T52 t467 x12_1).f2)) ∧ w'.cell? ⟨(ad482.add ((x12_1).toNat * 4)).block, (ad482.add ((x12_1).toNat * 4)).off + 3, none⟩ = some (.string ((rd_T52 t467 x12_1).f3))) (ds := [8, 10]) #[false, false, false, false, false, false, false, false, false, false, false] (by kernel_rfl) rfl rfl (zI3 BK480 (zI3 BK470 ⟨hx483_0, hx483_1, hx483_2, hx483_3⟩)) (fun hHeld => ?_); refine with_tabW columbariumlaw13_PredRules.tab13 columbariumlaw13_PredRules.bits13 (fun HT_ HW_ => ?_)
              generalize w54.drew = w55 at HO_10 HO_453005 HO_453006 HO_471002 HO_481002 BK452 BK453 BK470 BK480 HB hx483_0 hx483_1 hx483_2 hx483_3 hHeld ⊢
              refine pure_ (i := 0) (N := some 57) (v := ?_) (a' := ?_) #[true, false, false, false, false, false, false, false, false, false, false] rfl rfl (any_of HT_.out (by kernel_rfl)) (fun _ _ _ h => h) (Or.inl ⟨by rfl, ?_⟩) ?_ ?_
              rotate_left
              ·intro w'
               go_simp
               with_reducible rfl
              rotate_left
              ·simp only [Act.put, List.setIfInBounds_toArray, List.set_cons_zero, List.set_cons_succ, i64_w, i32_w]
               rfl
              refine pure_ (i := 2) (N := some 59) (v := ?_) (a' := ?_) #[true, false, true, false, false, false, false, false, false, false, false] rfl rfl (any_of HT_.out (by kernel_rfl)) (fun _ _ _ h => h) (Or.inl ⟨by rfl, ?_⟩) ?_ ?_
              rotate_left
              ·intro w'
               go_simp
               with_reducible rfl
              rotate_left
              ·simp only [Act.put, List.setIfInBounds_toArray, List.set_cons_zero, List.set_cons_succ, i64_w, i32_w]
               rfl
              refine pure_ (i := 4) (N := some 61) (v := ?_) (a' := ?_) #[true, false, true, false, true, false, false, false, false, false, false] rfl rfl (any_of HT_.out (by kernel_rfl)) (fun _ _ _ h => h) (Or.inl ⟨by rfl, ?_⟩) ?_ ?_
              rotate_left
              ·intro w'
               go_simp
               with_reducible rfl
              rotate_left
              ·simp only [Act.put, List.setIfInBounds_toArray, List.set_cons_zero, List.set_cons_succ, i64_w, i32_w]
               rfl
              refine take_ (i := 1) (N := some 58) (v := ?_) (a' := ?_) #[true, true, true, false, true, false, false, false, false, false, false] rfl rfl (take_ofW HT_.out HW_.out (by kernel_rfl)) (fun _ _ _ h => h) (Or.inl ⟨by rfl, ?_⟩) hHeld ?_ ?_
              rotate_left
              ·rintro w' ⟨s0, s1, s2, s3, s4, s5, s6, s7, s8, s9⟩
               go_simp
               with_reducible rfl
              rotate_left
              ·simp only [Act.put, List.setIfInBounds_toArray, List.set_cons_zero, List.set_cons_succ, i64_w, i32_w]
               rfl
              refine take_ (i := 3) (N := some 60) (v := ?_) (a' := ?_) #[true, true, true, true, true, false, false, false, false, false, false] rfl rfl (take_ofW HT_.out HW_.out (by kernel_rfl)) (fun _ _ _ h => h) (Or.inl ⟨by rfl, ?_⟩) hHeld ?_ ?_
              rotate_left
              ·rintro w' ⟨s0, s1, s2, s3, s4, s5, s6, s7, s8, s9⟩
               go_simp
               with_reducible rfl
              rotate_left
              ·simp only [Act.put, List.setIfInBounds_toArray, List.set_cons_zero, List.set_cons_succ, i64_w, i32_w]
               rfl
              refine pure_ (i := 5) (N := some 62) (v := ?_) (a' := ?_) #[true, true, true, true, true, true, false, false, false, false, false] rfl rfl (any_of HT_.out (by kernel_rfl)) (fun _ _ _ h => h) (Or.inl ⟨by rfl, ?_⟩) ?_ ?_
              rotate_left
              ·intro w'
               go_simp
               with_reducible rfl
              rotate_left
              ·simp only [Act.put, List.setIfInBounds_toArray, List.set_cons_zero, List.set_cons_succ, i64_w, i32_w]
               rfl
              refine take_ (i := 6) (N := some 63) (v := ?_) (a' := ?_) #[true, true, true, true, true, true, true, false, false, false, false] rfl rfl (take_ofW HT_.out HW_.out (by kernel_rfl)) (fun _ _ _ h => h) (Or.inl ⟨by rfl, ?_⟩) hHeld ?_ ?_
              rotate_left
              ·rintro w' ⟨s0, s1, s2, s3, s4, s5, s6, s7, s8, s9⟩
               go_simp
               with_reducible rfl
              rotate_left
              ·simp only [Act.put, List.setIfInBounds_toArray, List.set_cons_zero, List.set_cons_succ, i64_w, i32_w]
               rfl
              refine one_ (i := 7) (N := some 64) #[true, true, true, true, true, true, true, true, false, false, false] rfl rfl (one_of HT_.out (by kernel_rfl)) (by decide) (fun K hK => ?_)
              refine value_ (w1 := ?_) (v := ?_) (by rfl) rfl ?_ ?_
              rotate_left 2
              ·go_simp
               constructor
               ·rfl
               rfl
              refine hK.out _ _ ⟨(blk_cell (blk_alloc BK480.out _) 0).trans rfl, (blk_cell (blk_alloc BK480.out _) 1).trans rfl, (blk_cell (blk_alloc BK480.out _) 2).trans rfl, (blk_cell (blk_alloc BK470.out _) 0).trans rfl, (blk_cell (blk_alloc BK470.out _) 1).trans rfl, (blk_cell (blk_alloc BK470.out _) 2).trans rfl, (World.cell?_alloc_lt _ _ _ (World.block_lt_of_cell? _ _ (hHeld.2.2.2.2.2.2.1))).trans (hHeld.2.2.2.2.2.2.1), (World.cell?_alloc_lt _ _ _ (World.block_lt_of_cell? _ _ (hHeld.2.2.2.2.2.2.2.1))).trans (hHeld.2.2.2.2.2.2.2.1), (World.cell?_alloc_lt _ _ _ (World.block_lt_of_cell? _ _ (hHeld.2.2.2.2.2.2.2.2.1))).trans (hHeld.2.2.2.2.2.2.2.2.1), (World.cell?_alloc_lt _ _ _ (World.block_lt_of_cell? _ _ (hHeld.2.2.2.2.2.2.2.2.2))).trans (hHeld.2.2.2.2.2.2.2.2.2)⟩ (fun hHeld => ?_)
              clear hK K
              refine norm_ (a' := ?_) ?_ ?_
              rotate_left
              ·show Act.put _ (some 64) _ = _
               simp only [Act.put, List.setIfInBounds_toArray, List.set_cons_zero, List.set_cons_succ, i64_w, i32_w]
               rfl
              refine last_ (i := 8) (N := some 65) #[true, true, true, true, true, true, true, true, true, false, false] rfl rfl (one_of HT_.out (by kernel_rfl)) (by decide) (fun K hK => ?_)
              refine Kd.R_append_step k52 (w0 := w) w.heap.size (by rfl) (.tmp 58) (.tmp 64) 34 52 (.agg #[(.string ⟨#[]⟩), (.int .i64 0), (.int .i64 0), (.string ⟨#[]⟩)]) 48 rfl Try.underlying34 info52 rfl (by decide) (by omega) u481002 x481002_2 (⟨(rd_T52 t467 x12_1).f0, (rd_T52 t467 x12_1).f1, (rd_T52 t467 x12_1).f2, (rd_T52 t467 x12_1).f3⟩ : S52) [.string ((rd_T52 t467 x12_1).f0), .int .i64 ((rd_T52 t467 x12_1).f1), .int .i64 ((rd_T52 t467 x12_1).f2), .string ((rd_T52 t467 x12_1).f3)] (fun k_ => some k_ ≠ (.slice (some ad482) t467.length co23 : Value).ownBlock) (fun _ => False) rfl rfl ?aP (fun _ hk => hk.elim) ?aF ?aO ?aB ?aS ?aL ?_
              (case aP => exact k52_mkM _ _ _ (⟨(rd_T52 t467 x12_1).f0, (rd_T52 t467 x12_1).f1, (rd_T52 t467 x12_1).f2, (rd_T52 t467 x12_1).f3⟩ : S52))
              (case aB => exact mZ)
              (case aF => exact (fun k_ hk => fR HO_471002 hk))
              (case aO => exact (mR HO_481002.out))
              (case aS => exact (below_size mZ))
              (case aL => have := LMc52.out; omega)
              intro v485 w56 ho hb hg hat
              rw [← Ny484.out] at ho
              replace HO_10 := zM (Kd.R_over' (mR HO_10.out) (Kd.R_typed (mR HO_481002.out)) (by decide) hg)
              replace HO_453005 := zM (Kd.R_over' (mR HO_453005.out) (Kd.R_typed (mR HO_481002.out)) (by decide) hg)
              replace HO_453006 := zM (Kd.R_over' (mR HO_453006.out) (Kd.R_typed (mR HO_481002.out)) (by decide) hg)
              replace HO_471002 := zM (Kd.R_after (ok := (fun _ => True)) (yR HO_471002 (fun _ hk => ⟨trivial, hk⟩)) hg hat)
              replace BK452 := zM (blk_grown (mK BK452.out) hg (Kd.R_ne HO_481002.out BK452.out (by decide)))
              replace BK453 := zM (blk_grown (mK BK453.out) hg (Kd.R_ne HO_481002.out BK453.out (by decide)))
              replace BK470 := zM (blk_grown (mK BK470.out) hg (Kd.R_ne HO_481002.out BK470.out (by decide)))
              replace BK480 := zM (blk_grown (mK BK480.out) hg (Kd.R_ne HO_481002.out BK480.out (by decide)))
              replace HB := zM (hb)
              have HO486 := zM (ho)
              clear HO_481002
              clear ho hb hg hat
              obtain ⟨Ao57, co57, eo57⟩ := Kd.R_slice HO486.out
              (first | subst eo57 | (injection eo57 with f1_ f2_ f3_; have f4_ := f1_.symm; have f5_ := f3_.symm; clear f1_ f2_ f3_; subst f4_; subst f5_))
              refine hK.out _ _ ?_
              clear hK K
              refine norm_ (a' := ?_) ?_ ?_
              rotate_left
              ·show Act.put _ (some 65) _ = _
               simp only [Act.put, List.setIfInBounds_toArray, List.set_cons_zero, List.set_cons_succ, i64_w, i32_w]
               rfl
              refine pure_ (i := 9) (N := some 66) (v := ?_) (a' := ?_) #[true, true, true, true, true, true, true, true, true, true, false] rfl rfl (any_of HT_.out (by kernel_rfl)) (fun _ _ _ h => h) (Or.inl ⟨by rfl, ?_⟩) ?_ ?_
              rotate_left
              ·intro w'
               go_simp
               with_reducible rfl
              rotate_left
              ·simp only [Act.put, List.setIfInBounds_toArray, List.set_cons_zero, List.set_cons_succ, i64_w, i32_w]
               rfl
              refine last_ (i := 10) (N := none) #[true, true, true, true, true, true, true, true, true, true, true] rfl rfl (one_of HT_.out (by kernel_rfl)) (by decide) (fun K hK => ?_)
              have hs58 : w56.cell? ⟨gb480, 2, none⟩ = some (u481002) := (blk_cell BK480.out 2).trans rfl
              have hfs58 := blk_frozen BK480.out 2
              have hns58_0 := NB452_480.out
              have hns58_1 := NB453_480.out
              have hns58_2 := NB470_480.out
              have hms58_0 := NB480_452.out
              have hms58_1 := NB480_453.out
              have hms58_2 := NB480_470.out
              refine skip_ (w1 := ?_) (by rfl) rfl ?_ ?_
              rotate_left
              ·go_simp
               rfl
              refine hK.out _ _ ?_
              clear hK K
              refine done_ (done_of HT_.out (by kernel_rfl)) ?_
              try go_wp2
              go_roundg k2
              case measure => have := HK1.out; have := HK2.out; omega
              case rel => exact ⟨(wrap64 (x13_2 + 1)), (y484), (.slice Ao57 y484.length co57), ya, H', ⟨by have := HK1.out; have := HK2.out; omega⟩, ⟨by (with_reducible repeat (first | apply Kd.R_alloc | apply Kd.R_drewN | apply Kd.R_drew)); exact Kd.R_mono (zgR (Kd.R_types HO_10.out BK480.out (by decide))) (fun _ hk => hk.1)⟩, ⟨by (with_reducible repeat (first | apply Kd.R_alloc | apply Kd.R_drewN | apply Kd.R_drew)); exact Kd.R_mono (zgR (Kd.R_types HO_453005.out BK480.out (by decide))) (fun _ hk => hk.1)⟩, ⟨by (with_reducible repeat (first | apply Kd.R_alloc | apply Kd.R_drewN | apply Kd.R_drew)); exact Kd.R_mono (zgR (Kd.R_types HO_453006.out BK480.out (by decide))) (fun _ hk => ⟨hk.1.1, ⟨hk.1.2.1, hk.1.2.2⟩⟩)⟩, ⟨by (with_reducible repeat (first | apply Kd.R_alloc | apply Kd.R_drewN | apply Kd.R_drew)); exact Kd.R_mono (zgR (Kd.R_types HO_471002.out BK480.out (by decide))) (fun _ hk => hk.1.2)⟩, ⟨by (with_reducible repeat (first | apply Kd.R_alloc | apply Kd.R_drewN | apply Kd.R_drew)); exact Kd.R_mono (zgR (Kd.R_types HO486.out BK480.out (by decide))) (fun _ hk => hk.1)⟩, ⟨by (with_reducible repeat (first | refine blk_drewN ?_ _ | refine blk_drew ?_ | refine blk_alloc ?_ _)); refine blk_far ?_ NB452_480.out _; (with_reducible repeat (first | refine blk_drewN ?_ _ | refine blk_drew ?_ | refine blk_alloc ?_ _)); exact BK452.out⟩, ⟨by (with_reducible repeat (first | refine blk_drewN ?_ _ | refine blk_drew ?_ | refine blk_alloc ?_ _)); refine blk_far ?_ NB453_480.out _; (with_reducible repeat (first | refine blk_drewN ?_ _ | refine blk_drew ?_ | refine blk_alloc ?_ _)); exact BK453.out⟩, ⟨by (with_reducible repeat (first | refine blk_drewN ?_ _ | refine blk_drew ?_ | refine blk_alloc ?_ _)); refine blk_far ?_ NB470_480.out _; (with_reducible repeat (first | refine blk_drewN ?_ _ | refine blk_drew ?_ | refine blk_alloc ?_ _)); exact BK470.out⟩, ⟨by (with_reducible repeat (first | refine blk_drewN ?_ _ | refine blk_drew ?_ | refine blk_alloc ?_ _)); refine blk_put (cs := #[.int .i64 t475, .int .i64 t476, u481002]) ?_ 2 _ rfl; (with_reducible repeat (first | refine blk_drewN ?_ _ | refine blk_drew ?_ | refine blk_alloc ?_ _)); exact BK480.out⟩, ⟨mZ⟩⟩
             rw [if_neg c52] at H
             exact absurd H (by simp)
            rw [if_neg c51] at H
            have c51b0 : ((rdOf ByteArray.empty t472 x13_2).toList == ((rd_T52 t467 x12_1).f0).toList) = false := beq_eq_false_iff_ne.mpr c51
            have c51b1 : ((rdOf ByteArray.empty t472 x13_2).toList != ((rd_T52 t467 x12_1).f0).toList) = true := bne_iff_ne.mpr c51
            have H' := Aside0.mk H
            clear H
            obtain ⟨Ao59, co59, eo59⟩ := Kd.R_slice HO_10.out
            subst eo59
            try go_wp2
            replace HO_10 := zM (Kd.R_drew HO_10.out)
            replace HO_453005 := zM (Kd.R_drew HO_453005.out)
            replace HO_453006 := zM (Kd.R_drew HO_453006.out)
            replace HO_471002 := zM (Kd.R_drew HO_471002.out)
            replace HO_481002 := zM (Kd.R_drew HO_481002.out)
            replace BK452 := zM (blk_drew BK452.out)
            replace BK453 := zM (blk_drew BK453.out)
            replace BK470 := zM (blk_drew BK470.out)
            replace BK480 := zM (blk_drew BK480.out)
            replace HB := zM (below_drew1 HB.out)
            have p481 : 0 ≤ (x13_2 : Int) := zA
            have q481 : x13_2 < (t472.length : Int) := zA
            obtain ⟨ad481, e481, hx481_0⟩ := Kd.at_string (Kd.R_reads' HO_10.out).2.2 x13_2 p481 q481
            cases e481
            replace p481 := eq_true p481
            replace q481 := eq_true q481
            have p482 : 0 ≤ (x12_1 : Int) := zA
            have q482 : x12_1 < (t467.length : Int) := zA
            obtain ⟨ad482, e482, hx482_0, hx482_1, hx482_2, hx482_3⟩ := at_T52 (Kd.R_reads' HO_471002.out).2.2 x12_1 p482 q482
            cases e482
            replace p482 := eq_true p482
            replace q482 := eq_true q482
            refine start_ (n := 11) (S := fun w' => w'.cell? ⟨gb470, 0, none⟩ = some (.int .i64 t465) ∧ w'.cell? ⟨gb470, 1, none⟩ = some (.int .i64 t466) ∧ w'.cell? ⟨gb470, 2, none⟩ = some (.slice (some ad482) t467.length co23) ∧ w'.cell? (ad481.add (x13_2).toNat) = some (.string (rdOf ByteArray.empty t472 x13_2)) ∧ w'.cell? (ad482.add ((x12_1).toNat * 4)) = some (.string ((rd_T52 t467 x12_1).f0)) ∧ w'.cell? ⟨(ad482.add ((x12_1).toNat * 4)).block, (ad482.add ((x12_1).toNat * 4)).off + 1, none⟩ = some (.int .i64 ((rd_T52 t467 x12_1).f1)) ∧ w'.cell? ⟨(ad482.add ((x12_1).toNat * 4)).block, (ad482.add ((x12_1).toNat * 4)).off + 2, none⟩ = some (.int .i64 ((rd_T52 t467 x12_1).f2)) ∧ w'.cell? ⟨(ad482.add ((x12_1).toNat * 4)).block, (ad482.add ((x12_1).toNat * 4)).off + 3, none⟩ = some (.string ((rd_T52 t467 x12_1).f3))) (ds := []) #[false, false, false, false, false, false, false, false, false, false, false] (by kernel_rfl) rfl rfl (zI3 BK470 ⟨hx481_0, hx482_0, hx482_1, hx482_2, hx482_3⟩) (fun hHeld => ?_); refine with_tabW columbariumlaw13_PredRules.tab12 columbariumlaw13_PredRules.bits12 (fun HT_ HW_ => ?_)
            generalize wr.drew = w60 at HO_10 HO_453005 HO_453006 HO_471002 HO_481002 BK452 BK453 BK470 BK480 HB hx481_0 hx482_0 hx482_1 hx482_2 hx482_3 hHeld ⊢
            refine pure_ (i := 0) (N := some 46) (v := ?_) (a' := ?_) #[true, false, false, false, false, false, false, false, false, false, false] rfl rfl (any_of HT_.out (by kernel_rfl)) (fun _ _ _ h => h) (Or.inl ⟨by rfl, ?_⟩) ?_ ?_
            rotate_left
            ·intro w'
             go_simp
             with_reducible rfl
            rotate_left
            ·simp only [Act.put, List.setIfInBounds_toArray, List.set_cons_zero, List.set_cons_succ, i64_w, i32_w]
             rfl
            refine pure_ (i := 1) (N := some 47) (v := ?_) (a' := ?_) #[true, true, false, false, false, false, false, false, false, false, false] rfl rfl (any_of HT_.out (by kernel_rfl)) (fun _ _ _ h => h) (Or.inl ⟨by rfl, ?_⟩) ?_ ?_
            rotate_left
            ·intro w'
             go_simp
             with_reducible rfl
            rotate_left
            ·simp only [Act.put, List.setIfInBounds_toArray, List.set_cons_zero, List.set_cons_succ, i64_w, i32_w]
             rfl
            refine pure_ (i := 2) (N := some 48) (v := ?_) (a' := ?_) #[true, true, true, false, false, false, false, false, false, false, false] rfl rfl (any_of HT_.out (by kernel_rfl)) (fun _ _ _ h => h) (Or.inl ⟨by rfl, ?_⟩) ?_ ?_
            rotate_left
            ·intro w'
             go_simp
             with_reducible rfl
            rotate_left
            ·simp only [Act.put, List.setIfInBounds_toArray, List.set_cons_zero, List.set_cons_succ, i64_w, i32_w]
             rfl
            refine pure_ (i := 4) (N := some 50) (v := ?_) (a' := ?_) #[true, true, true, false, true, false, false, false, false, false, false] rfl rfl (any_of HT_.out (by kernel_rfl)) (fun _ _ _ h => h) (Or.inl ⟨by rfl, ?_⟩) ?_ ?_
            rotate_left
            ·intro w'
             go_simp
             with_reducible rfl
            rotate_left
            ·simp only [Act.put, List.setIfInBounds_toArray, List.set_cons_zero, List.set_cons_succ, i64_w, i32_w]
             rfl
            refine pure_ (i := 6) (N := some 52) (v := ?_) (a' := ?_) #[true, true, true, false, true, false, true, false, false, false, false] rfl rfl (any_of HT_.out (by kernel_rfl)) (fun _ _ _ h => h) (Or.inl ⟨by rfl, ?_⟩) ?_ ?_
            rotate_left
            ·intro w'
             go_simp
             with_reducible rfl
            rotate_left
            ·simp only [Act.put, List.setIfInBounds_toArray, List.set_cons_zero, List.set_cons_succ, i64_w, i32_w]
             rfl
            refine take_ (i := 3) (N := some 49) (v := ?_) (a' := ?_) #[true, true, true, true, true, false, true, false, false, false, false] rfl rfl (take_ofW HT_.out HW_.out (by kernel_rfl)) (fun _ _ _ h => h) (Or.inl ⟨by rfl, ?_⟩) hHeld ?_ ?_
            rotate_left
            ·rintro w' ⟨s0, s1, s2, s3, s4, s5, s6, s7⟩
             go_simp
             with_reducible rfl
            rotate_left
            ·simp only [Act.put, List.setIfInBounds_toArray, List.set_cons_zero, List.set_cons_succ, i64_w, i32_w]
             rfl
            refine take_ (i := 5) (N := some 51) (v := ?_) (a' := ?_) #[true, true, true, true, true, true, true, false, false, false, false] rfl rfl (take_ofW HT_.out HW_.out (by kernel_rfl)) (fun _ _ _ h => h) (Or.inl ⟨by rfl, ?_⟩) hHeld ?_ ?_
            rotate_left
            ·rintro w' ⟨s0, s1, s2, s3, s4, s5, s6, s7⟩
             go_simp
             with_reducible rfl
            rotate_left
            ·simp only [Act.put, List.setIfInBounds_toArray, List.set_cons_zero, List.set_cons_succ, i64_w, i32_w]
             rfl
            refine pure_ (i := 7) (N := some 53) (v := ?_) (a' := ?_) #[true, true, true, true, true, true, true, true, false, false, false] rfl rfl (any_of HT_.out (by kernel_rfl)) (fun _ _ _ h => h) (Or.inl ⟨by rfl, ?_⟩) ?_ ?_
            rotate_left
            ·intro w'
             go_simp
             with_reducible rfl
            rotate_left
            ·simp only [Act.put, List.setIfInBounds_toArray, List.set_cons_zero, List.set_cons_succ, i64_w, i32_w]
             rfl
            refine pure_ (i := 8) (N := some 54) (v := ?_) (a' := ?_) #[true, true, true, true, true, true, true, true, true, false, false] rfl rfl (any_of HT_.out (by kernel_rfl)) (fun _ _ _ h => h) (Or.inl ⟨by rfl, ?_⟩) ?_ ?_
            rotate_left
            ·intro w'
             go_simp
             with_reducible rfl
            rotate_left
            ·simp only [Act.put, List.setIfInBounds_toArray, List.set_cons_zero, List.set_cons_succ, i64_w, i32_w]
             rfl
            refine take_ (i := 9) (N := some 55) (v := ?_) (a' := ?_) #[true, true, true, true, true, true, true, true, true, true, false] rfl rfl (take_ofW HT_.out HW_.out (by kernel_rfl)) (fun _ _ _ h => h) (Or.inl ⟨by rfl, ?_⟩) hHeld ?_ ?_
            rotate_left
            ·rintro w' ⟨s0, s1, s2, s3, s4, s5, s6, s7⟩
             go_simp
             with_reducible rfl
            rotate_left
            ·simp only [Act.put, List.setIfInBounds_toArray, List.set_cons_zero, List.set_cons_succ, i64_w, i32_w]
             rfl
            refine pure_ (i := 10) (N := some 56) (v := ?_) (a' := ?_) #[true, true, true, true, true, true, true, true, true, true, true] rfl rfl (any_of HT_.out (by kernel_rfl)) (fun _ _ _ h => h) (Or.inl ⟨by rfl, ?_⟩) ?_ ?_
            rotate_left
            ·intro w'
             go_simp
             with_reducible rfl
            rotate_left
            ·simp only [Act.put, List.setIfInBounds_toArray, List.set_cons_zero, List.set_cons_succ, i64_w, i32_w]
             rfl
            refine done_ (done_of HT_.out (by kernel_rfl)) ?_
            try go_wp2
            go_roundg k2
            case measure => have := HK1.out; have := HK2.out; omega
            case rel => exact ⟨(wrap64 (x13_2 + 1)), (x481002_2), (u481002), ya, H', ⟨by have := HK1.out; have := HK2.out; omega⟩, ⟨mR HO_10.out⟩, ⟨mR HO_453005.out⟩, ⟨mR HO_453006.out⟩, ⟨mR HO_471002.out⟩, ⟨mR HO_481002.out⟩, ⟨mK BK452.out⟩, ⟨mK BK453.out⟩, ⟨mK BK470.out⟩, ⟨mK BK480.out⟩, ⟨mZ⟩⟩
           rw [if_neg c50] at H
           exact absurd H (by simp)
          rw [if_neg c49] at H
          exact absurd H (by simp)
         rw [if_neg c48] at H
         exact absurd H (by simp)
        rw [if_neg c47] at H
        have c47b0 : decide (x13_2 < (t472.length : Int)) = false := decide_eq_false c47
        clear c47
        have H' := Aside0.mk H
        clear H
        obtain ⟨Ao61, co61, eo61⟩ := Kd.R_slice HO_10.out
        subst eo61
        go_wp2
        go_roundg k2
        case measure => have := HK1.out; have := HK2.out; omega
        case rel => exact ⟨(wrap64 (x12_1 + 1)), (x481002_2), (u481002), ya, H', ⟨by have := HK1.out; have := HK2.out; omega⟩, ⟨mR HO_10.out⟩, ⟨mR HO_453005.out⟩, ⟨mR HO_453006.out⟩, ⟨mR HO_471002.out⟩, ⟨mR HO_481002.out⟩, ⟨mK BK452.out⟩, ⟨mK BK453.out⟩, ⟨mK BK470.out⟩, ⟨mK BK480.out⟩, ⟨mZ⟩⟩
     rw [if_neg c42] at H
     have c42b0 : decide (x12_1 < (t467.length : Int)) = false := decide_eq_false c42
     clear c42
     (first | rw [c42b0] | rw [c42b1] | (simp only [i64_w, i32_w]; rw [c42b0]) | skip)
     replace H := Option.bind_eq_some_iff.mp H
     obtain ⟨t487, A620, H⟩ := H
     try dsimp only at H
     have A62 := zM A620
     clear A620
     replace H := Option.bind_eq_some_iff.mp H
     obtain ⟨t488, A630, H⟩ := H
     try dsimp only at H
     have A63 := zM A630
     clear A630
     by_cases c64 : (t487 != t488) = true
     ·rw [if_pos c64] at H
      have c64b0 : (t487 != t488) = true := c64
      (try (have c64b1 : decide (t487 = t488) = false := by simpa using c64))
      (try (have c64b2 : (t487 == t488) = false := by simpa using c64))
      (try (have c64b3 : ¬ (t487 = t488) := by simpa using c64))
      clear c64
      exact absurd ((Option.some.inj H).trans hrt_.out) (by decide)
     rw [if_neg c64] at H
     have c64b0 : (t487 != t488) = false := by simpa using c64
     (try (have c64b1 : decide (t487 = t488) = true := by simpa using c64))
     (try (have c64b2 : (t487 == t488) = true := by simpa using c64))
     clear c64
     have H' := Aside0.mk H
     clear H
     have hnb65 := NB470_452.out
     have hnc65 := NB452_470.out
     have hnb66 := NB470_453.out
     have hnc66 := NB453_470.out
     have hnb67 := NB470_480.out
     have hnc67 := NB480_470.out
     obtain ⟨hcz68_0, hcz68_1, hcz68_2, hfz68_0, hfz68_1, hfz68_2⟩ := cells_3 BK470.out
     try go_wp2
     replace HO_10 := zM (Kd.R_drew HO_10.out)
     replace HO_453005 := zM (Kd.R_drew HO_453005.out)
     replace HO_453006 := zM (Kd.R_drew HO_453006.out)
     replace HO_471002 := zM (Kd.R_drew HO_471002.out)
     replace HO_481002 := zM (Kd.R_drew HO_481002.out)
     replace BK452 := zM (blk_drew BK452.out)
     replace BK453 := zM (blk_drew BK453.out)
     replace BK470 := zM (blk_drew BK470.out)
     replace BK480 := zM (blk_drew BK480.out)
     replace HB := zM (below_drew1 HB.out)
     refine start_ (n := 7) (S := fun w' => w'.cell? ⟨gb452, 0, none⟩ = some (.int .i64 t454) ∧ w'.cell? ⟨gb452, 1, none⟩ = some (.string t455) ∧ w'.cell? ⟨gb452, 2, none⟩ = some (.int .i64 t456) ∧ w'.cell? ⟨gb452, 3, none⟩ = some (.int .i64 t457) ∧ w'.cell? ⟨gb452, 4, none⟩ = some (.string t458) ∧ w'.cell? ⟨gb452, 5, none⟩ = some (.slice Ao15 t459.length co15) ∧ w'.cell? ⟨gb452, 6, none⟩ = some (.slice Ao16 t462.length co16) ∧ w'.cell? ⟨gb470, 0, none⟩ = some (.int .i64 t465) ∧ w'.cell? ⟨gb470, 1, none⟩ = some (.int .i64 t466) ∧ w'.cell? ⟨gb470, 2, none⟩ = some (.slice Ao23 t467.length co23) ∧ w'.cell? ⟨gb480, 0, none⟩ = some (.int .i64 t475) ∧ w'.cell? ⟨gb480, 1, none⟩ = some (.int .i64 t476) ∧ w'.cell? ⟨gb480, 2, none⟩ = some (u481002)) (ds := []) #[false, false, false, false, false, false, false] (by kernel_rfl) rfl rfl (zI7 BK452 (zI3 BK470 (zJ3 BK480))) (fun hHeld => ?_)
     generalize wr.drew = w69 at HO_10 HO_453005 HO_453006 HO_471002 HO_481002 BK452 BK453 BK470 BK480 HB hHeld ⊢
     refine take_ (i := 0) (N := some 67) (v := ?_) (a' := ?_) #[true, false, false, false, false, false, false] rfl rfl (by kernel_rfl) (fun _ _ _ h => h) (Or.inl ⟨by rfl, ?_⟩) hHeld ?_ ?_
     rotate_left
     ·rintro w' ⟨s0, s1, s2, s3, s4, s5, s6, s7, s8, s9, s10, s11, s12⟩
      go_simp
      with_reducible rfl
     rotate_left
     ·simp only [Act.put, List.setIfInBounds_toArray, List.set_cons_zero, List.set_cons_succ, i64_w, i32_w]
      rfl
     refine take_ (i := 1) (N := some 68) (v := ?_) (a' := ?_) #[true, true, false, false, false, false, false] rfl rfl (by kernel_rfl) (fun _ _ _ h => h) (Or.inl ⟨by rfl, ?_⟩) hHeld ?_ ?_
     rotate_left
     ·rintro w' ⟨s0, s1, s2, s3, s4, s5, s6, s7, s8, s9, s10, s11, s12⟩
      go_simp
      with_reducible rfl
     rotate_left
     ·simp only [Act.put, List.setIfInBounds_toArray, List.set_cons_zero, List.set_cons_succ, i64_w, i32_w]
      rfl
     refine take_ (i := 3) (N := some 70) (v := ?_) (a' := ?_) #[true, true, false, true, false, false, false] rfl rfl (by kernel_rfl) (fun _ _ _ h => h) (Or.inl ⟨by rfl, ?_⟩) hHeld ?_ ?_
     rotate_left
     ·rintro w' ⟨s0, s1, s2, s3, s4, s5, s6, s7, s8, s9, s10, s11, s12⟩
      go_simp
      with_reducible rfl
     rotate_left
     ·simp only [Act.put, List.setIfInBounds_toArray, List.set_cons_zero, List.set_cons_succ, i64_w, i32_w]
      rfl
     refine take_ (i := 4) (N := some 71) (v := ?_) (a' := ?_) #[true, true, false, true, true, false, false] rfl rfl (by kernel_rfl) (fun _ _ _ h => h) (Or.inl ⟨by rfl, ?_⟩) hHeld ?_ ?_
     rotate_left
     ·rintro w' ⟨s0, s1, s2, s3, s4, s5, s6, s7, s8, s9, s10, s11, s12⟩
      go_simp
      with_reducible rfl
     rotate_left
     ·simp only [Act.put, List.setIfInBounds_toArray, List.set_cons_zero, List.set_cons_succ, i64_w, i32_w]
      rfl
     refine one_ (i := 2) (N := some 69) #[true, true, true, true, true, false, false] rfl rfl (by kernel_rfl) (by decide) (fun K hK => ?_)
     refine goes_ Try.func15 (by kernel_rfl) rfl #[.agg #[.int .i64 t454, .string t455, .int .i64 t456, .int .i64 t457, .string t458, .slice Ao15 t459.length co15, .slice Ao16 t462.length co16], .agg #[.int .i64 t465, .int .i64 t466, .slice Ao23 t467.length co23]] (by rfl) rfl rfl yb ?_
     with_reducible refine (pred_Eval.calls k1 t454 t455 t456 t457 t458 _ _ t459 _ _ t462 t465 t466 _ _ t467 t487 _ ?side1 ?side2 ?side3 ?side4 ?side5 ?side6 A62.out).mono ?_
     (case side1 => exact zC ((Kd.R_reads' HO_453005.out).2.2))
     (case side2 => exact (Kd.R_reads' HO_453005.out).2.1)
     (case side3 => exact zC ((Kd.R_reads' HO_453006.out).2.2))
     (case side4 => exact (Kd.R_reads' HO_453006.out).2.1)
     (case side5 => exact zC ((Kd.R_reads' HO_471002.out).2.2))
     (case side6 => exact (Kd.R_reads' HO_471002.out).2.1)
     rintro e w70 ⟨rfl, hb⟩
     refine ⟨_, rfl, ?_⟩
     replace HO_453005 := zR HO_453005 hb
     replace HO_453006 := zR HO_453006 hb
     replace HO_471002 := zR HO_471002 hb
     replace HO_481002 := zR HO_481002 hb
     replace BK452 := zK BK452 hb
     replace BK470 := zK BK470 hb
     replace BK480 := zK BK480 hb
     replace HB := zM (below_step mZ hb)
     (try clear hb)
     (try clear hb2)
     (try clear hk)
     (try clear hi)
     obtain ⟨Ao71, co71, eo71⟩ := Kd.R_slice HO_481002.out
     (first | subst eo71 | (injection eo71 with f1_ f2_ f3_; have f4_ := f1_.symm; have f5_ := f3_.symm; clear f1_ f2_ f3_; subst f4_; subst f5_))
     refine hK.out _ _ (zI7 BK452 (zI3 BK470 (zJ3 BK480))) (fun hHeld => ?_)
     clear hK K
     refine norm_ (a' := ?_) ?_ ?_
     rotate_left
     ·show Act.put _ (some 69) _ = _
      simp only [Act.put, List.setIfInBounds_toArray, List.set_cons_zero, List.set_cons_succ, i64_w, i32_w]
      rfl
     refine one_ (i := 5) (N := some 72) #[true, true, true, true, true, true, false] rfl rfl (by kernel_rfl) (by decide) (fun K hK => ?_)
     refine goes_ Try.func15 (by kernel_rfl) rfl #[.agg #[.int .i64 t454, .string t455, .int .i64 t456, .int .i64 t457, .string t458, .slice Ao15 t459.length co15, .slice Ao16 t462.length co16], .agg #[.int .i64 t475, .int .i64 t476, .slice Ao71 x481002_1.length co71]] (by rfl) rfl rfl yb ?_
     with_reducible refine (pred_Eval.calls k1 t454 t455 t456 t457 t458 _ _ t459 _ _ t462 t475 t476 _ _ x481002_1 t488 _ ?side1 ?side2 ?side3 ?side4 ?side5 ?side6 A63.out).mono ?_
     (case side1 => exact zC ((Kd.R_reads' HO_453005.out).2.2))
     (case side2 => exact (Kd.R_reads' HO_453005.out).2.1)
     (case side3 => exact zC ((Kd.R_reads' HO_453006.out).2.2))
     (case side4 => exact (Kd.R_reads' HO_453006.out).2.1)
     (case side5 => exact zC ((Kd.R_reads' HO_481002.out).2.2))
     (case side6 => exact (Kd.R_reads' HO_481002.out).2.1)
     rintro e w72 ⟨rfl, hb⟩
     refine ⟨_, rfl, ?_⟩
     replace HO_453005 := zR HO_453005 hb
     replace HO_453006 := zR HO_453006 hb
     replace HO_471002 := zR HO_471002 hb
     replace BK452 := zK BK452 hb
     replace BK470 := zK BK470 hb
     replace BK480 := zK BK480 hb
     replace HB := zM (below_step mZ hb)
     (try clear hb)
     (try clear hb2)
     (try clear hk)
     (try clear hi)
     refine hK.out _ _ (zI7 BK452 (zI3 BK470 (zJ3 BK480))) (fun hHeld => ?_)
     clear hK K
     refine norm_ (a' := ?_) ?_ ?_
     rotate_left
     ·show Act.put _ (some 72) _ = _
      simp only [Act.put, List.setIfInBounds_toArray, List.set_cons_zero, List.set_cons_succ, i64_w, i32_w]
      rfl
     refine pure_ (i := 6) (N := some 73) (v := ?_) (a' := ?_) #[true, true, true, true, true, true, true] rfl rfl (by kernel_rfl) (fun _ _ _ h => h) (Or.inl ⟨by rfl, ?_⟩) ?_ ?_
     rotate_left
     ·intro w'
      go_simp
      with_reducible rfl
     rotate_left
     ·simp only [Act.put, List.setIfInBounds_toArray, List.set_cons_zero, List.set_cons_succ, i64_w, i32_w]
      rfl
     refine done_ (by kernel_rfl) ?_
     try go_wp2
     go_meet
     case rel => exact ⟨_, H', ⟨by have := HK1.out; first | omega | exact Nat.le_refl _⟩, ⟨yR HO_453005 (fun _ hk => trivial)⟩, ⟨yR HO_453006 (fun _ hk => ⟨hk.2.1, hk.2.2⟩)⟩, ⟨yR HO_471002 (fun _ hk => trivial)⟩, ⟨mK BK452.out⟩, ⟨mK BK470.out⟩, ⟨mZ⟩⟩
  replace c26 := Bool.eq_false_iff.mpr c26
  subst c26
  rw [if_neg (show ¬ (false = true) by decide)] at H
  have H' := Aside0.mk H
  clear H
  go_wp2
  go_meet
  case rel => exact ⟨_, H', ⟨by first | omega | exact Nat.le_refl _⟩, ⟨mR HO461.out⟩, ⟨mR HO464.out⟩, ⟨mR HO469.out⟩, ⟨mK BK452.out⟩, ⟨mK BK470.out⟩, ⟨mZ⟩⟩
 clear HC8
 try clear c26
 try clear c42
 try clear c42b0
 try clear c42b1
 try clear c47
 try clear c47b0
 try clear c48
 try clear c49
 try clear c50
 try clear c51
 try clear c51b0
 try clear c51b1
 try clear c52
 try clear c64
 try clear c64b0
 try clear c64b1
 try clear c64b2
 try clear hcz68_0
 try clear hcz68_1
 try clear hcz68_2
 try clear hfz68_0
 try clear hfz68_1
 try clear hfz68_2
 try clear hx481_0
 try clear hx482_0
 try clear hx482_1
 try clear hx482_2
 try clear hx482_3
 try clear hx483_0
 try clear hx483_1
 try clear hx483_2
 try clear hx483_3
 try clear p481
 try clear p482
 try clear p483
 try clear q481
 try clear q482
 try clear q483
 obtain ⟨kq, HA, HJ7, HO_453005, HO_453006, HO_471002, BK452, BK470, HB⟩ := hcut
 cases kq with
 | zero => exact absurd HA.out (by simp [columbariumlaw13_PredRules.j2])
 | succ kj7 =>
  have H := HA.out
  clear HA
  simp only [columbariumlaw13_PredRules.j2] at H
  have HC73 := zM H
  clear H
  go_upto_if 76 with (fail)
  go_cut [3] (fun v3 wc => ∃ (kq : Nat) (x3_72 : ByteArray), v3 = .string x3_72 ∧ Aside0 (columbariumlaw13_PredRules.j3 kq a2 x3_72 = some r) ∧ Aside0 (kq ≤ kj7) ∧ Aside0 (Kd.R Kd.string 9 wc w.heap.size (fun _ => True) (.slice Ao15 t459.length co15) t459) ∧ Aside0 (Kd.R k25 25 wc w.heap.size (fun k_ => nb k_ Ao15 t459.length co15 ∧ k_ ≠ gb452) (.slice Ao16 t462.length co16) t462) ∧ Aside0 (Kd.R k52 52 wc w.heap.size (fun _ => True) (.slice Ao23 t467.length co23) t467) ∧ Aside0 (wc.heap[gb452]? = some (.cells #[.int .i64 t454, .string t455, .int .i64 t456, .int .i64 t457, .string t458, (.slice Ao15 t459.length co15), (.slice Ao16 t462.length co16)] 25 (0, 0))) ∧ Aside0 (wc.heap[gb470]? = some (.cells #[.int .i64 t465, .int .i64 t466, (.slice Ao23 t467.length co23)] 36 (0, 0))) ∧ Aside0 (Below w.heap.size w wc))
  case first =>
   have H := HC73.out
   clear HC73
   by_cases c74 : (a3.size : Int) > 20
   ·rw [if_pos c74] at H
    have c74b0 : decide (20 < (a3.size : Int)) = true := decide_eq_true c74
    have c74b1 : decide (20 < a3.size) = true := decide_eq_true (by omega)
    clear c74
    (first | rw [c74b0] | rw [c74b1] | (simp only [i64_w, i32_w]; rw [c74b0]) | skip)
    by_cases c75 : 0 ≤ 20
    ·rw [if_pos c75] at H
     have c75b0 := eq_true c75
     have c75b1 : decide (0 ≤ 20) = true := decide_eq_true c75
     clear c75
     by_cases c76 : 20 ≤ (a3.size : Int)
     ·rw [if_pos c76] at H
      have c76b0 := eq_true c76
      have c76b1 : decide (20 ≤ (a3.size : Int)) = true := decide_eq_true c76
      clear c76
      have H' := Aside0.mk H
      clear H
      go_wp2
      go_meet
      case rel => exact ⟨_, (a3.extract 0 20), ya, H', ⟨by have := HJ7.out; first | omega | exact Nat.le_refl _⟩, ⟨mR HO_453005.out⟩, ⟨mR HO_453006.out⟩, ⟨mR HO_471002.out⟩, ⟨mK BK452.out⟩, ⟨mK BK470.out⟩, ⟨mZ⟩⟩
     rw [if_neg c76] at H
     exact absurd H (by simp)
    rw [if_neg c75] at H
    exact absurd H (by simp)
   rw [if_neg c74] at H
   have c74b0 : decide (20 < (a3.size : Int)) = false := decide_eq_false c74
   have c74b1 : decide (20 < a3.size) = false := decide_eq_false (by omega)
   clear c74
   (first | rw [c74b0] | rw [c74b1] | (simp only [i64_w, i32_w]; rw [c74b0]) | skip)
   have H' := Aside0.mk H
   clear H
   go_wp2
   go_meet
   case rel => exact ⟨_, (a3), ya, H', ⟨by have := HJ7.out; first | omega | exact Nat.le_refl _⟩, ⟨mR HO_453005.out⟩, ⟨mR HO_453006.out⟩, ⟨mR HO_471002.out⟩, ⟨mK BK452.out⟩, ⟨mK BK470.out⟩, ⟨mZ⟩⟩
  clear HC73
  try clear c26
  try clear c42
  try clear c42b0
  try clear c42b1
  try clear c47
  try clear c47b0
  try clear c48
  try clear c49
  try clear c50
  try clear c51
  try clear c51b0
  try clear c51b1
  try clear c52
  try clear c64
  try clear c64b0
  try clear c64b1
  try clear c64b2
  try clear c74
  try clear c74b0
  try clear c74b1
  try clear c75
  try clear c75b0
  try clear c75b1
  try clear c76
  try clear c76b0
  try clear c76b1
  try clear hcz68_0
  try clear hcz68_1
  try clear hcz68_2
  try clear hfz68_0
  try clear hfz68_1
  try clear hfz68_2
  try clear hx481_0
  try clear hx482_0
  try clear hx482_1
  try clear hx482_2
  try clear hx482_3
  try clear hx483_0
  try clear hx483_1
  try clear hx483_2
  try clear hx483_3
  try clear p481
  try clear p482
  try clear p483
  try clear q481
  try clear q482
  try clear q483
  obtain ⟨kq, x3_72, rfl, HA, HJ72, HO_453005, HO_453006, HO_471002, BK452, BK470, HB⟩ := hcut
  cases kq with
  | zero => exact absurd HA.out (by simp [columbariumlaw13_PredRules.j3])
  | succ kj72 =>
   have H := HA.out
   clear HA
   simp only [columbariumlaw13_PredRules.j3] at H
   replace H := Option.bind_eq_some_iff.mp H
   obtain ⟨⟨t489, t490, t491, t492⟩, A770, H⟩ := H
   try dsimp only at H
   have A77 := zM A770
   clear A770
   replace H := Option.bind_eq_some_iff.mp H
   obtain ⟨⟨t493, t494, t495, t496⟩, A780, H⟩ := H
   try dsimp only at H
   have A78 := zM A780
   clear A780
   obtain ⟨y497, hy497⟩ : ∃ y_ : List (S52), y_ = (([(⟨t489, t490, t491, t492⟩ : S52), (⟨t493, t494, t495, t496⟩ : S52)] : List (S52))) := ⟨_, rfl⟩
   replace H : ((columbariumkeep_At.f 5 0 y497).bind fun bt500 => ((pred_Eval.f kj72 4 (⟨#[110]⟩ : ByteArray) 7 0 (⟨#[]⟩ : ByteArray) ([] : List ByteArray) ([] : List (S25)) bt500.1 bt500.2.1 bt500.2.2).bind fun t506 => ((pred_Eval.f kj72 5 (⟨#[110]⟩ : ByteArray) a2 0 (⟨#[]⟩ : ByteArray) ([] : List ByteArray) ([] : List (S25)) bt500.1 bt500.2.1 bt500.2.2).bind fun t507 => ((pred_Eval.f kj72 7 (⟨#[115]⟩ : ByteArray) 0 0 (⟨#[]⟩ : ByteArray) (([x3_72] : List ByteArray)) ([] : List (S25)) bt500.1 bt500.2.1 bt500.2.2).bind fun t511 => ((columbariumbook_Within.f (Go.bits .and .i64 a2 7) 0 (x3_72.size : Int)).bind fun t512 => (if 0 ≤ t512 then (if t512 ≤ (x3_72.size : Int) then ((pred_Eval.f kj72 8 (⟨#[115]⟩ : ByteArray) 0 0 (x3_72.extract 0 (t512 : Int).toNat) ([] : List ByteArray) ([] : List (S25)) bt500.1 bt500.2.1 bt500.2.2).bind fun t513 => ((pred_Eval.f kj72 9 (⟨#[109]⟩ : ByteArray) 0 0 (⟨#[]⟩ : ByteArray) ([] : List ByteArray) ([] : List (S25)) bt500.1 bt500.2.1 bt500.2.2).bind fun t514 => ((pred_Eval.f kj72 10 (⟨#[]⟩ : ByteArray) 5 5 (⟨#[]⟩ : ByteArray) ([] : List ByteArray) ([] : List (S25)) bt500.1 bt500.2.1 bt500.2.2).bind fun t515 => ((pred_Eval.f kj72 6 (⟨#[110]⟩ : ByteArray) 0 0 x3_72 ([] : List ByteArray) ([] : List (S25)) bt500.1 bt500.2.1 bt500.2.2).bind fun t516 => (if (t506 == (decide (a2 < 7))) = true then (if t507 = true then (if t511 = true then (if t513 = true then (if t514 = true then (if t515 = true then (if t516 = true then (some false) else ((columbariumlaw13_known.f kj72).bind fun t517 => (some t517))) else (some false)) else (some false)) else (some false)) else (some false)) else (some false)) else (some false)))))) else (none)) else (none))))))) = some r := by first | (rw [hy497]; with_reducible exact H) | (have H2_ := (Option.bind_some _ _).symm.trans H; rw [hy497]; with_reducible exact H2_) | (have H2_ := (Option.bind_some _ _).symm.trans H; with_reducible exact H2_) | with_reducible exact H | (rw [hy497]; exact H) | exact H
   have Ny497 := zM hy497
   clear hy497
   replace H := Option.bind_eq_some_iff.mp H
   obtain ⟨⟨t500, t501, t502⟩, A790, H⟩ := H
   try dsimp only at H
   have A79 := zM A790
   clear A790
   replace H := Option.bind_eq_some_iff.mp H
   obtain ⟨t506, A800, H⟩ := H
   try dsimp only at H
   have A80 := zM A800
   clear A800
   replace H := Option.bind_eq_some_iff.mp H
   obtain ⟨t507, A810, H⟩ := H
   try dsimp only at H
   have A81 := zM A810
   clear A810
   obtain ⟨y508, hy508⟩ : ∃ y_ : List ByteArray, y_ = (([x3_72] : List ByteArray)) := ⟨_, rfl⟩
   replace H : ((pred_Eval.f kj72 7 (⟨#[115]⟩ : ByteArray) 0 0 (⟨#[]⟩ : ByteArray) y508 ([] : List (S25)) t500 t501 t502).bind fun t511 => ((columbariumbook_Within.f (Go.bits .and .i64 a2 7) 0 (x3_72.size : Int)).bind fun t512 => (if 0 ≤ t512 then (if t512 ≤ (x3_72.size : Int) then ((pred_Eval.f kj72 8 (⟨#[115]⟩ : ByteArray) 0 0 (x3_72.extract 0 (t512 : Int).toNat) ([] : List ByteArray) ([] : List (S25)) t500 t501 t502).bind fun t513 => ((pred_Eval.f kj72 9 (⟨#[109]⟩ : ByteArray) 0 0 (⟨#[]⟩ : ByteArray) ([] : List ByteArray) ([] : List (S25)) t500 t501 t502).bind fun t514 => ((pred_Eval.f kj72 10 (⟨#[]⟩ : ByteArray) 5 5 (⟨#[]⟩ : ByteArray) ([] : List ByteArray) ([] : List (S25)) t500 t501 t502).bind fun t515 => ((pred_Eval.f kj72 6 (⟨#[110]⟩ : ByteArray) 0 0 x3_72 ([] : List ByteArray) ([] : List (S25)) t500 t501 t502).bind fun t516 => (if (t506 == (decide (a2 < 7))) = true then (if t507 = true then (if t511 = true then (if t513 = true then (if t514 = true then (if t515 = true then (if t516 = true then (some false) else ((columbariumlaw13_known.f kj72).bind fun t517 => (some t517))) else (some false)) else (some false)) else (some false)) else (some false)) else (some false)) else (some false)))))) else (none)) else (none)))) = some r := by first | (rw [hy508]; with_reducible exact H) | (have H2_ := (Option.bind_some _ _).symm.trans H; rw [hy508]; with_reducible exact H2_) | (have H2_ := (Option.bind_some _ _).symm.trans H; with_reducible exact H2_) | with_reducible exact H | (rw [hy508]; exact H) | exact H
   have Ny508 := zM hy508
   clear hy508
   replace H := Option.bind_eq_some_iff.mp H
   obtain ⟨t511, A820, H⟩ := H
   try dsimp only at H
   have A82 := zM A820
   clear A820
   replace H := Option.bind_eq_some_iff.mp H
   obtain ⟨t512, A830, H⟩ := H
   try dsimp only at H
   have A83 := zM A830
   clear A830
   by_cases c84 : 0 ≤ t512
   ·rw [if_pos c84] at H
    have c84b0 := eq_true c84
    have c84b1 : decide (0 ≤ t512) = true := decide_eq_true c84
    clear c84
    by_cases c85 : t512 ≤ (x3_72.size : Int)
    ·rw [if_pos c85] at H
     have c85b0 := eq_true c85
     have c85b1 : decide (t512 ≤ (x3_72.size : Int)) = true := decide_eq_true c85
     clear c85
     replace H := Option.bind_eq_some_iff.mp H
     obtain ⟨t513, A860, H⟩ := H
     try dsimp only at H
     have A86 := zM A860
     clear A860
     replace H := Option.bind_eq_some_iff.mp H
     obtain ⟨t514, A870, H⟩ := H
     try dsimp only at H
     have A87 := zM A870
     clear A870
     replace H := Option.bind_eq_some_iff.mp H
     obtain ⟨t515, A880, H⟩ := H
     try dsimp only at H
     have A88 := zM A880
     clear A880
     replace H := Option.bind_eq_some_iff.mp H
     obtain ⟨t516, A890, H⟩ := H
     try dsimp only at H
     have A89 := zM A890
     clear A890
     by_cases c90 : (t506 == (decide (a2 < 7))) = true
     ·rw [if_pos c90] at H
      have c90b0 : (t506 == (decide (a2 < 7))) = true := c90
      (try (have c90b1 : decide (t506 = (decide (a2 < 7))) = true := by simpa using c90))
      (try (have c90b2 : (t506 == (decide (a2 < 7))) = true := by simpa using c90))
      clear c90
      by_cases c91 : t507 = true
      ·subst c91
       rw [if_pos rfl] at H
       by_cases c92 : t511 = true
       ·subst c92
        rw [if_pos rfl] at H
        by_cases c93 : t513 = true
        ·subst c93
         rw [if_pos rfl] at H
         by_cases c94 : t514 = true
         ·subst c94
          rw [if_pos rfl] at H
          by_cases c95 : t515 = true
          ·subst c95
           rw [if_pos rfl] at H
           by_cases c96 : t516 = true
           ·subst c96
            rw [if_pos rfl] at H
            exact absurd ((Option.some.inj H).trans hrt_.out) (by decide)
           replace c96 := Bool.eq_false_iff.mpr c96
           subst c96
           rw [if_neg (show ¬ (false = true) by decide)] at H
           replace H := Option.bind_eq_some_iff.mp H
           obtain ⟨t517, A970, H⟩ := H
           try dsimp only at H
           have A97 := zM A970
           clear A970
           obtain rfl := Option.some.inj H
           try go_wp2_with (first | ((with_reducible refine gate_callee (f := 23) rfl ?_); refine goesL_ (some 80) rfl rfl Try.func23 (by kernel_rfl) rfl #[.string (⟨#[110]⟩ : ByteArray), .int .i64 a2] rfl yb ?_; (with_reducible refine (columbariumkeep_Num.calls (⟨#[110]⟩ : ByteArray) a2 t489 t490 t491 t492 _ A77.out).mono ?_); rintro e w98 ⟨rfl, hb⟩; refine ⟨_, rfl, ?_⟩; replace HO_453005 := zR HO_453005 hb; replace HO_453006 := zR HO_453006 hb; replace HO_471002 := zR HO_471002 hb; replace BK452 := zK BK452 hb; replace BK470 := zK BK470 hb; replace HB := zM (below_step mZ hb); (try clear hb)) | ((with_reducible refine gate_callee (f := 24) rfl ?_); refine goesL_ (some 82) rfl rfl Try.func24 (by kernel_rfl) rfl #[.string (⟨#[115]⟩ : ByteArray), .string x3_72] rfl yb ?_; (with_reducible refine (columbariumkeep_Str.calls (⟨#[115]⟩ : ByteArray) x3_72 t493 t494 t495 t496 _ A78.out).mono ?_); rintro e w99 ⟨rfl, hb⟩; refine ⟨_, rfl, ?_⟩; replace HO_453005 := zR HO_453005 hb; replace HO_453006 := zR HO_453006 hb; replace HO_471002 := zR HO_471002 hb; replace BK452 := zK BK452 hb; replace BK470 := zK BK470 hb; replace HB := zM (below_step mZ hb); (try clear hb)) | ((with_reducible refine gate_dst (N := 83) rfl ?_); refine Kd.R_lit k52 _ 52 ?hg (N := 83) ?hd (xs := ([(⟨t489, t490, t491, t492⟩ : S52), (⟨t493, t494, t495, t496⟩ : S52)] : List (S52))) (inner := [.string t489, .int .i64 t490, .int .i64 t491, .string t492, .string t493, .int .i64 t494, .int .i64 t495, .string t496]) (ok := fun _ => True) (okp := fun _ => True) ?hr ?hp (fun _ hk => hk) trivial (Below.refl _ _) (Nat.le_refl _) (by simp) ?_; (case hd => rfl); (case hg => rfl); (case hr => first | (go_simp; done) | (go_simp; rfl)); (case hp => exact (Reps.c4 (show Kd.M k52 _ _ _ (⟨t489, t490, t491, t492⟩ : S52) [.string t489, .int .i64 t490, .int .i64 t491, .string t492] from (k52_mkM _ _ _ (⟨t489, t490, t491, t492⟩ : S52) )) (Reps.c4 (show Kd.M k52 _ _ _ (⟨t493, t494, t495, t496⟩ : S52) [.string t493, .int .i64 t494, .int .i64 t495, .string t496] from (k52_mkM _ _ _ (⟨t493, t494, t495, t496⟩ : S52) )) (Reps.none _ _)))); intro v498 w100 ho101 hb hg_ hnew_; clear hg_ hnew_; (first | rw [← Ny497.out] at ho101 | (simp only [Int.reduceToNat] at ho101; rw [← Ny497.out] at ho101)); replace HO_453005 := zR HO_453005 hb; replace HO_453006 := zR HO_453006 hb; have HO499 := zM (Kd.R_lower (Kd.R_new' ho101 (Kd.R_lt (mR HO_471002.out))) (below_size mZ)); replace HO_471002 := zM (Kd.R_elder' (mR HO_471002.out) (Kd.R_base ho101) hb); replace BK452 := zK BK452 hb; replace BK470 := zK BK470 hb; replace HB := zM (below_step mZ hb); clear hb ho101; obtain ⟨Ao102, co102, eo102⟩ := Kd.R_slice HO499.out; subst eo102) | ((with_reducible refine gate_callee (f := 22) rfl ?_); refine goesL_ (some 84) rfl rfl Try.func22 (by kernel_rfl) rfl #[.int .i64 5, .int .i64 0, .slice Ao102 y497.length co102] rfl yb ?_; (with_reducible refine (columbariumkeep_At.calls 5 0 _ _ y497 t500 t501 t502 _ ?side1 ?side2 A79.out).mono ?_); (case side1 => exact zC ((Kd.R_reads' HO499.out).2.2)); (case side2 => exact (Kd.R_reads' HO499.out).2.1); rintro e w103 ⟨v503, rfl, ho0, hb⟩; refine ⟨_, rfl, ?_⟩; replace HO_453005 := zR HO_453005 hb; replace HO_453006 := zR HO_453006 hb; have HO504 := zM (Kd.R_lower (Kd.R_new' (Kd.R_new' ho0 (Kd.R_lt (mR HO_471002.out))) (Kd.R_lt (mR HO499.out))) (below_size mZ)); replace HO_471002 := zM (Kd.R_elder' (mR HO_471002.out) (Kd.R_base ho0) hb); replace HO499 := zM (Kd.R_elder' (mR HO499.out) (Kd.R_base ho0) hb); replace BK452 := zK BK452 hb; replace BK470 := zK BK470 hb; replace HB := zM (below_step mZ hb); (try clear hb); (try clear ho0)) | ((with_reducible refine gate_dst (N := 14) rfl ?_); refine box_event ?hg (N := 14) ?hd (cs := #[.int .i64 0, .int .i64 0, .slice none 0 0]) (t := 36) ?hr ?_; (case hd => rfl); (case hg => rfl); (case hr => first | (go_simp; done) | (go_simp; rfl)); intro gb505 hg w104 hbox hb; replace HO_453005 := zR HO_453005 hb; replace HO_453006 := zR HO_453006 hb; replace HO_471002 := zR HO_471002 hb; replace HO499 := zR HO499 hb; replace HO504 := zR HO504 hb; have BK505 := zM (hbox); have GW505 := zM ((by rw [hg]; exact (below_size mZ) : w.heap.size ≤ gb505)); replace HB := zM (below_step mZ hb); have GE505 := GW505; have NB452_505 := zL BK452 hg; have NB505_452 := zG BK452 hg; replace BK452 := zK BK452 hb; have NB470_505 := zL BK470 hg; have NB505_470 := zG BK470 hg; replace BK470 := zK BK470 hb; clear hb hbox hg; have hnb105 := NB505_452.out; have hnc105 := NB452_505.out; have hnb106 := NB505_470.out; have hnc106 := NB470_505.out; obtain ⟨hcz107_0, hcz107_1, hcz107_2, hfz107_0, hfz107_1, hfz107_2⟩ := cells_3 BK505.out; obtain ⟨Ao108, co108, eo108⟩ := Kd.R_slice HO504.out; subst eo108) | ((with_reducible refine gate_callee (f := 15) rfl ?_); refine goesL_ (some 87) rfl rfl Try.func15 (by kernel_rfl) rfl #[.agg #[.int .i64 4, .string (⟨#[110]⟩ : ByteArray), .int .i64 7, .int .i64 0, .string (⟨#[]⟩ : ByteArray), .slice none 0 0, .slice none 0 0], .agg #[.int .i64 t500, .int .i64 t501, .slice Ao108 t502.length co108]] rfl yb ?_; (refine (pred_Eval.calls kj72 4 (⟨#[110]⟩ : ByteArray) 7 0 (⟨#[]⟩ : ByteArray) _ _ ([] : List ByteArray) _ _ ([] : List (S25)) t500 t501 _ _ t502 t506 _ ?side1 ?side2 ?side3 ?side4 ?side5 ?side6 A80.out).mono ?_); (case side1 => exact Kd.C_nil _ _); (case side2 => exact Nat.le_refl _); (case side3 => exact Kd.C_nil _ _); (case side4 => exact Nat.le_refl _); (case side5 => refine (Kd.R_reads' (e := 52) (base := w.heap.size) (ok := fun k_ => ((True ∧ nb k_ Ao23 t467.length co23) ∧ nb k_ Ao102 y497.length co102)) (n := t502.length) (c := co108) ?_).2.2; exact (by (with_reducible repeat (first | apply Kd.R_alloc | apply Kd.R_drewN | apply Kd.R_drew)); exact (Kd.R_mono (zgR (Kd.R_types HO504.out BK505.out (by decide))) (fun _ h_ => h_.1)))); (case side6 => exact (Kd.R_reads' HO504.out).2.1); rintro e w109 ⟨rfl, hb⟩; refine ⟨_, rfl, ?_⟩; replace HO_453005 := zM (Kd.R_below (by (with_reducible repeat (first | apply Kd.R_alloc | apply Kd.R_drewN | apply Kd.R_drew)); exact (Kd.R_mono (zgR (Kd.R_types HO_453005.out BK505.out (by decide))) (fun _ h_ => h_.1))) hb); replace HO_453006 := zM (Kd.R_below (by (with_reducible repeat (first | apply Kd.R_alloc | apply Kd.R_drewN | apply Kd.R_drew)); exact (Kd.R_mono (zgR (Kd.R_types HO_453006.out BK505.out (by decide))) (fun _ h_ => h_.1))) hb); replace HO_471002 := zM (Kd.R_below (by (with_reducible repeat (first | apply Kd.R_alloc | apply Kd.R_drewN | apply Kd.R_drew)); exact (Kd.R_mono (zgR (Kd.R_types HO_471002.out BK505.out (by decide))) (fun _ h_ => h_.1))) hb); replace HO499 := zM (Kd.R_below (by (with_reducible repeat (first | apply Kd.R_alloc | apply Kd.R_drewN | apply Kd.R_drew)); exact (Kd.R_mono (zgR (Kd.R_types HO499.out BK505.out (by decide))) (fun _ h_ => h_.1))) hb); replace HO504 := zM (Kd.R_below (by (with_reducible repeat (first | apply Kd.R_alloc | apply Kd.R_drewN | apply Kd.R_drew)); exact (Kd.R_mono (zgR (Kd.R_types HO504.out BK505.out (by decide))) (fun _ h_ => h_.1))) hb); replace BK452 := zM (blk_below (zF BK452.out NB452_505.out) hb); replace BK470 := zM (blk_below (zF BK470.out NB470_505.out) hb); replace BK505 := zP3 BK505 hb; replace HB := zM (below_step mZ hb); (try clear hb); obtain ⟨hcz110_0, hcz110_1, hcz110_2, hfz110_0, hfz110_1, hfz110_2⟩ := cells_3 BK505.out) | ((with_reducible refine gate_callee (f := 15) rfl ?_); refine goesL_ (some 91) rfl rfl Try.func15 (by kernel_rfl) rfl #[.agg #[.int .i64 5, .string (⟨#[110]⟩ : ByteArray), .int .i64 a2, .int .i64 0, .string (⟨#[]⟩ : ByteArray), .slice none 0 0, .slice none 0 0], .agg #[.int .i64 t500, .int .i64 t501, .slice Ao108 t502.length co108]] rfl yb ?_; (refine (pred_Eval.calls kj72 5 (⟨#[110]⟩ : ByteArray) a2 0 (⟨#[]⟩ : ByteArray) _ _ ([] : List ByteArray) _ _ ([] : List (S25)) t500 t501 _ _ t502 true _ ?side1 ?side2 ?side3 ?side4 ?side5 ?side6 A81.out).mono ?_); (case side1 => exact Kd.C_nil _ _); (case side2 => exact Nat.le_refl _); (case side3 => exact Kd.C_nil _ _); (case side4 => exact Nat.le_refl _); (case side5 => exact zC ((Kd.R_reads' HO504.out).2.2)); (case side6 => exact (Kd.R_reads' HO504.out).2.1); rintro e w111 ⟨rfl, hb⟩; refine ⟨_, rfl, ?_⟩; replace HO_453005 := zR HO_453005 hb; replace HO_453006 := zR HO_453006 hb; replace HO_471002 := zR HO_471002 hb; replace HO499 := zR HO499 hb; replace HO504 := zR HO504 hb; replace BK452 := zK BK452 hb; replace BK470 := zK BK470 hb; replace BK505 := zK BK505 hb; replace HB := zM (below_step mZ hb); (try clear hb)) | ((with_reducible refine gate_dst (N := 93) rfl ?_); refine Kd.R_lit Kd.string _ 9 ?hg (N := 93) ?hd (xs := ([x3_72] : List ByteArray)) (inner := [.string x3_72]) (ok := fun _ => True) (okp := fun _ => True) ?hr ?hp (fun _ hk => hk) trivial (Below.refl _ _) (Nat.le_refl _) (by simp) ?_; (case hd => rfl); (case hg => rfl); (case hr => first | (go_simp; done) | (go_simp; rfl)); (case hp => exact (Reps.one (show Kd.M Kd.string _ _ _ x3_72 [.string x3_72] from rfl) (Reps.none _ _))); intro v509 w112 ho113 hb hg_ hnew_; clear hg_ hnew_; (first | rw [← Ny508.out] at ho113 | (simp only [Int.reduceToNat] at ho113; rw [← Ny508.out] at ho113)); replace HO_453006 := zM (Kd.R_elder' (mR HO_453006.out) (Kd.R_base ho113) hb); replace HO_471002 := zR HO_471002 hb; replace HO499 := zR HO499 hb; replace HO504 := zR HO504 hb; have HO510 := zM (Kd.R_lower (Kd.R_new' ho113 (Kd.R_lt (mR HO_453005.out))) (below_size mZ)); replace HO_453005 := zM (Kd.R_elder' (mR HO_453005.out) (Kd.R_base ho113) hb); replace BK452 := zK BK452 hb; replace BK470 := zK BK470 hb; replace BK505 := zK BK505 hb; replace HB := zM (below_step mZ hb); clear hb ho113; obtain ⟨Ao114, co114, eo114⟩ := Kd.R_slice HO510.out; subst eo114; obtain ⟨hcz115_0, hcz115_1, hcz115_2, hfz115_0, hfz115_1, hfz115_2⟩ := cells_3 BK505.out) | ((with_reducible refine gate_callee (f := 15) rfl ?_); refine goesL_ (some 96) rfl rfl Try.func15 (by kernel_rfl) rfl #[.agg #[.int .i64 7, .string (⟨#[115]⟩ : ByteArray), .int .i64 0, .int .i64 0, .string (⟨#[]⟩ : ByteArray), .slice Ao114 y508.length co114, .slice none 0 0], .agg #[.int .i64 t500, .int .i64 t501, .slice Ao108 t502.length co108]] rfl yb ?_; (refine (pred_Eval.calls kj72 7 (⟨#[115]⟩ : ByteArray) 0 0 (⟨#[]⟩ : ByteArray) _ _ y508 _ _ ([] : List (S25)) t500 t501 _ _ t502 true _ ?side1 ?side2 ?side3 ?side4 ?side5 ?side6 A82.out).mono ?_); (case side1 => exact zC ((Kd.R_reads' HO510.out).2.2)); (case side2 => exact (Kd.R_reads' HO510.out).2.1); (case side3 => exact Kd.C_nil _ _); (case side4 => exact Nat.le_refl _); (case side5 => exact zC ((Kd.R_reads' HO504.out).2.2)); (case side6 => exact (Kd.R_reads' HO504.out).2.1); rintro e w116 ⟨rfl, hb⟩; refine ⟨_, rfl, ?_⟩; replace HO_453005 := zR HO_453005 hb; replace HO_453006 := zR HO_453006 hb; replace HO_471002 := zR HO_471002 hb; replace HO499 := zR HO499 hb; replace HO504 := zR HO504 hb; replace HO510 := zR HO510 hb; replace BK452 := zK BK452 hb; replace BK470 := zK BK470 hb; replace BK505 := zK BK505 hb; replace HB := zM (below_step mZ hb); (try clear hb)))
           replace HO_453005 := zM (Kd.R_drew HO_453005.out)
           replace HO_453006 := zM (Kd.R_drew HO_453006.out)
           replace HO_471002 := zM (Kd.R_drew HO_471002.out)
           replace HO499 := zM (Kd.R_drew HO499.out)
           replace HO504 := zM (Kd.R_drew HO504.out)
           replace HO510 := zM (Kd.R_drew HO510.out)
           replace BK452 := zM (blk_drew BK452.out)
           replace BK470 := zM (blk_drew BK470.out)
           replace BK505 := zM (blk_drew BK505.out)
           replace HB := zM (below_drew1 HB.out)
           refine start_ (n := 11) (S := fun w' => w'.cell? ⟨gb505, 0, none⟩ = some (.int .i64 t500) ∧ w'.cell? ⟨gb505, 1, none⟩ = some (.int .i64 t501) ∧ w'.cell? ⟨gb505, 2, none⟩ = some (.slice Ao108 t502.length co108)) (ds := []) #[false, false, false, false, false, false, false, false, false, false, false] (by kernel_rfl) rfl rfl (zJ3 BK505) (fun hHeld => ?_); refine with_tabW columbariumlaw13_PredRules.tab22 columbariumlaw13_PredRules.bits22 (fun HT_ HW_ => ?_)
           generalize w116.drew = w117 at HO_453005 HO_453006 HO_471002 HO499 HO504 HO510 BK452 BK470 BK505 HB hHeld ⊢
           refine pure_ (i := 0) (N := some 97) (v := ?_) (a' := ?_) #[true, false, false, false, false, false, false, false, false, false, false] rfl rfl (any_of HT_.out (by kernel_rfl)) (fun _ _ _ h => h) (Or.inl ⟨by rfl, ?_⟩) ?_ ?_
           rotate_left
           ·intro w'
            go_simp
            with_reducible rfl
           rotate_left
           ·simp only [Act.put, List.setIfInBounds_toArray, List.set_cons_zero, List.set_cons_succ, i64_w, i32_w]
            rfl
           refine pure_ (i := 1) (N := some 98) (v := ?_) (a' := ?_) #[true, true, false, false, false, false, false, false, false, false, false] rfl rfl (any_of HT_.out (by kernel_rfl)) (fun _ _ _ h => h) (Or.inl ⟨by rfl, ?_⟩) ?_ ?_
           rotate_left
           ·intro w'
            go_simp
            with_reducible rfl
           rotate_left
           ·simp only [Act.put, List.setIfInBounds_toArray, List.set_cons_zero, List.set_cons_succ, i64_w, i32_w]
            rfl
           refine pure_ (i := 2) (N := some 99) (v := ?_) (a' := ?_) #[true, true, true, false, false, false, false, false, false, false, false] rfl rfl (any_of HT_.out (by kernel_rfl)) (fun _ _ _ h => h) (Or.inl ⟨by rfl, ?_⟩) ?_ ?_
           rotate_left
           ·intro w'
            go_simp
            with_reducible rfl
           rotate_left
           ·simp only [Act.put, List.setIfInBounds_toArray, List.set_cons_zero, List.set_cons_succ, i64_w, i32_w]
            rfl
           refine pure_ (i := 3) (N := some 100) (v := ?_) (a' := ?_) #[true, true, true, true, false, false, false, false, false, false, false] rfl rfl (any_of HT_.out (by kernel_rfl)) (fun _ _ _ h => h) (Or.inl ⟨by rfl, ?_⟩) ?_ ?_
           rotate_left
           ·intro w'
            go_simp
            with_reducible rfl
           rotate_left
           ·simp only [Act.put, List.setIfInBounds_toArray, List.set_cons_zero, List.set_cons_succ, i64_w, i32_w]
            rfl
           refine pure_ (i := 4) (N := some 101) (v := ?_) (a' := ?_) #[true, true, true, true, true, false, false, false, false, false, false] rfl rfl (any_of HT_.out (by kernel_rfl)) (fun _ _ _ h => h) (Or.inl ⟨by rfl, ?_⟩) ?_ ?_
           rotate_left
           ·intro w'
            go_simp
            with_reducible rfl
           rotate_left
           ·simp only [Act.put, List.setIfInBounds_toArray, List.set_cons_zero, List.set_cons_succ, i64_w, i32_w]
            rfl
           refine take_ (i := 8) (N := some 105) (v := ?_) (a' := ?_) #[true, true, true, true, true, false, false, false, true, false, false] rfl rfl (take_ofW HT_.out HW_.out (by kernel_rfl)) (fun _ _ _ h => h) (Or.inl ⟨by rfl, ?_⟩) hHeld ?_ ?_
           rotate_left
           ·rintro w' ⟨s0, s1, s2⟩
            go_simp
            with_reducible rfl
           rotate_left
           ·simp only [Act.put, List.setIfInBounds_toArray, List.set_cons_zero, List.set_cons_succ, i64_w, i32_w]
            rfl
           refine one_ (i := 5) (N := some 102) #[true, true, true, true, true, true, false, false, true, false, false] rfl rfl (one_of HT_.out (by kernel_rfl)) (by decide) (fun K hK => ?_)
           refine goes_ Try.func17 (by kernel_rfl) rfl #[.int .i64 (Go.bits .and .i64 a2 7), .int .i64 0, .int .i64 (x3_72.size : Int)] (by rfl) rfl rfl yb ?_
           with_reducible refine (columbariumbook_Within.calls (Go.bits .and .i64 a2 7) 0 (x3_72.size : Int) t512 _ A83.out).mono ?_
           rintro e w' ⟨rfl, ⟨nd, rfl⟩⟩
           refine ⟨_, rfl, ?_⟩
           refine hK.out _ _ (zJ3 BK505) (fun hHeld => ?_)
           clear hK K
           refine norm_ (a' := ?_) ?_ ?_
           rotate_left
           ·show Act.put _ (some 102) _ = _
            simp only [Act.put, List.setIfInBounds_toArray, List.set_cons_zero, List.set_cons_succ, i64_w, i32_w]
            rfl
           refine pure_ (i := 6) (N := some 103) (v := ?_) (a' := ?_) #[true, true, true, true, true, true, true, false, true, false, false] rfl rfl (any_of HT_.out (by kernel_rfl)) (fun _ _ _ h => h) (Or.inl ⟨by rfl, ?_⟩) ?_ ?_
           rotate_left
           ·intro w'
            go_simp
            with_reducible rfl
           rotate_left
           ·simp only [Act.put, List.setIfInBounds_toArray, List.set_cons_zero, List.set_cons_succ, i64_w, i32_w]
            rfl
           refine pure_ (i := 7) (N := some 104) (v := ?_) (a' := ?_) #[true, true, true, true, true, true, true, true, true, false, false] rfl rfl (any_of HT_.out (by kernel_rfl)) (fun _ _ _ h => h) (Or.inl ⟨by rfl, ?_⟩) ?_ ?_
           rotate_left
           ·intro w'
            go_simp
            with_reducible rfl
           rotate_left
           ·simp only [Act.put, List.setIfInBounds_toArray, List.set_cons_zero, List.set_cons_succ, i64_w, i32_w]
            rfl
           refine one_ (i := 9) (N := some 106) #[true, true, true, true, true, true, true, true, true, true, false] rfl rfl (one_of HT_.out (by kernel_rfl)) (by decide) (fun K hK => ?_)
           refine goes_ Try.func15 (by kernel_rfl) rfl #[.agg #[.int .i64 8, .string (⟨#[115]⟩ : ByteArray), .int .i64 0, .int .i64 0, .string (x3_72.extract 0 (t512 : Int).toNat), .slice none 0 0, .slice none 0 0], .agg #[.int .i64 t500, .int .i64 t501, .slice Ao108 t502.length co108]] (by rfl) rfl rfl yb ?_
           refine (pred_Eval.calls kj72 8 (⟨#[115]⟩ : ByteArray) 0 0 (x3_72.extract 0 (t512 : Int).toNat) _ _ ([] : List ByteArray) _ _ ([] : List (S25)) t500 t501 _ _ t502 true _ ?side1 ?side2 ?side3 ?side4 ?side5 ?side6 A86.out).mono ?_
           (case side1 => exact Kd.C_nil _ _)
           (case side2 => exact Nat.le_refl _)
           (case side3 => exact Kd.C_nil _ _)
           (case side4 => exact Nat.le_refl _)
           (case side5 => exact zC ((Kd.R_reads' HO504.out).2.2))
           (case side6 => exact (Kd.R_reads' HO504.out).2.1)
           rintro e w118 ⟨rfl, hb⟩
           refine ⟨_, rfl, ?_⟩
           replace HO504 := zR HO504 hb
           replace BK505 := zK BK505 hb
           replace HB := zM (below_step mZ hb)
           (try clear hb)
           (try clear hb2)
           (try clear hk)
           (try clear hi)
           refine hK.out _ _ (zJ3 BK505) (fun hHeld => ?_)
           clear hK K
           refine norm_ (a' := ?_) ?_ ?_
           rotate_left
           ·show Act.put _ (some 106) _ = _
            simp only [Act.put, List.setIfInBounds_toArray, List.set_cons_zero, List.set_cons_succ, i64_w, i32_w]
            rfl
           refine pure_ (i := 10) (N := some 18) (v := ?_) (a' := ?_) #[true, true, true, true, true, true, true, true, true, true, true] rfl rfl (any_of HT_.out (by kernel_rfl)) (fun _ _ _ h => h) (Or.inl ⟨by rfl, ?_⟩) ?_ ?_
           rotate_left
           ·intro w'
            go_simp
            with_reducible rfl
           rotate_left
           ·simp only [Act.put, List.setIfInBounds_toArray, List.set_cons_zero, List.set_cons_succ, i64_w, i32_w]
            rfl
           refine done_ (done_of HT_.out (by kernel_rfl)) ?_
           obtain ⟨hcz119_0, hcz119_1, hcz119_2, hfz119_0, hfz119_1, hfz119_2⟩ := cells_3 BK505.out
           try go_wp2_with (first | ((with_reducible refine gate_callee (f := 15) rfl ?_); refine goesL_ (some 109) rfl rfl Try.func15 (by kernel_rfl) rfl #[.agg #[.int .i64 9, .string (⟨#[109]⟩ : ByteArray), .int .i64 0, .int .i64 0, .string (⟨#[]⟩ : ByteArray), .slice none 0 0, .slice none 0 0], .agg #[.int .i64 t500, .int .i64 t501, .slice Ao108 t502.length co108]] rfl yb ?_; (refine (pred_Eval.calls kj72 9 (⟨#[109]⟩ : ByteArray) 0 0 (⟨#[]⟩ : ByteArray) _ _ ([] : List ByteArray) _ _ ([] : List (S25)) t500 t501 _ _ t502 true _ ?side1 ?side2 ?side3 ?side4 ?side5 ?side6 A87.out).mono ?_); (case side1 => exact Kd.C_nil _ _); (case side2 => exact Nat.le_refl _); (case side3 => exact Kd.C_nil _ _); (case side4 => exact Nat.le_refl _); (case side5 => exact zC ((Kd.R_reads' HO504.out).2.2)); (case side6 => exact (Kd.R_reads' HO504.out).2.1); rintro e w120 ⟨rfl, hb⟩; refine ⟨_, rfl, ?_⟩; replace HO504 := zR HO504 hb; replace BK505 := zK BK505 hb; replace HB := zM (below_step mZ hb); (try clear hb); obtain ⟨hcz121_0, hcz121_1, hcz121_2, hfz121_0, hfz121_1, hfz121_2⟩ := cells_3 BK505.out) | ((with_reducible refine gate_callee (f := 15) rfl ?_); refine goesL_ (some 112) rfl rfl Try.func15 (by kernel_rfl) rfl #[.agg #[.int .i64 10, .string (⟨#[]⟩ : ByteArray), .int .i64 5, .int .i64 5, .string (⟨#[]⟩ : ByteArray), .slice none 0 0, .slice none 0 0], .agg #[.int .i64 t500, .int .i64 t501, .slice Ao108 t502.length co108]] rfl yb ?_; (refine (pred_Eval.calls kj72 10 (⟨#[]⟩ : ByteArray) 5 5 (⟨#[]⟩ : ByteArray) _ _ ([] : List ByteArray) _ _ ([] : List (S25)) t500 t501 _ _ t502 true _ ?side1 ?side2 ?side3 ?side4 ?side5 ?side6 A88.out).mono ?_); (case side1 => exact Kd.C_nil _ _); (case side2 => exact Nat.le_refl _); (case side3 => exact Kd.C_nil _ _); (case side4 => exact Nat.le_refl _); (case side5 => exact zC ((Kd.R_reads' HO504.out).2.2)); (case side6 => exact (Kd.R_reads' HO504.out).2.1); rintro e w122 ⟨rfl, hb⟩; refine ⟨_, rfl, ?_⟩; replace HO504 := zR HO504 hb; replace BK505 := zK BK505 hb; replace HB := zM (below_step mZ hb); (try clear hb); obtain ⟨hcz123_0, hcz123_1, hcz123_2, hfz123_0, hfz123_1, hfz123_2⟩ := cells_3 BK505.out) | ((with_reducible refine gate_callee (f := 15) rfl ?_); refine goesL_ (some 116) rfl rfl Try.func15 (by kernel_rfl) rfl #[.agg #[.int .i64 6, .string (⟨#[110]⟩ : ByteArray), .int .i64 0, .int .i64 0, .string x3_72, .slice none 0 0, .slice none 0 0], .agg #[.int .i64 t500, .int .i64 t501, .slice Ao108 t502.length co108]] rfl yb ?_; (refine (pred_Eval.calls kj72 6 (⟨#[110]⟩ : ByteArray) 0 0 x3_72 _ _ ([] : List ByteArray) _ _ ([] : List (S25)) t500 t501 _ _ t502 false _ ?side1 ?side2 ?side3 ?side4 ?side5 ?side6 A89.out).mono ?_); (case side1 => exact Kd.C_nil _ _); (case side2 => exact Nat.le_refl _); (case side3 => exact Kd.C_nil _ _); (case side4 => exact Nat.le_refl _); (case side5 => exact zC ((Kd.R_reads' HO504.out).2.2)); (case side6 => exact (Kd.R_reads' HO504.out).2.1); rintro e w124 ⟨rfl, hb⟩; refine ⟨_, rfl, ?_⟩; replace HO504 := zR HO504 hb; replace BK505 := zK BK505 hb; replace HB := zM (below_step mZ hb); (try clear hb)) | (go_at_call 11; (with_reducible refine (columbariumlaw13_known.calls kj72  t517 _ A97.out).mono ?_); rintro e w125 ⟨rfl, hb⟩; replace HO504 := zR HO504 hb; replace BK505 := zK BK505 hb; replace HB := zM (below_step mZ hb); (try clear hb)))
           go_ret
           exact ⟨by first | rfl | (simp [errW_none, errW_some] <;> rfl) | (simp [*, errW_none, errW_some] <;> rfl), mZ⟩
          replace c95 := Bool.eq_false_iff.mpr c95
          subst c95
          rw [if_neg (show ¬ (false = true) by decide)] at H
          exact absurd ((Option.some.inj H).trans hrt_.out) (by decide)
         replace c94 := Bool.eq_false_iff.mpr c94
         subst c94
         rw [if_neg (show ¬ (false = true) by decide)] at H
         exact absurd ((Option.some.inj H).trans hrt_.out) (by decide)
        replace c93 := Bool.eq_false_iff.mpr c93
        subst c93
        rw [if_neg (show ¬ (false = true) by decide)] at H
        exact absurd ((Option.some.inj H).trans hrt_.out) (by decide)
       replace c92 := Bool.eq_false_iff.mpr c92
       subst c92
       rw [if_neg (show ¬ (false = true) by decide)] at H
       exact absurd ((Option.some.inj H).trans hrt_.out) (by decide)
      replace c91 := Bool.eq_false_iff.mpr c91
      subst c91
      rw [if_neg (show ¬ (false = true) by decide)] at H
      exact absurd ((Option.some.inj H).trans hrt_.out) (by decide)
     rw [if_neg c90] at H
     have c90b0 : (t506 == (decide (a2 < 7))) = false := by simpa using c90
     (try (have c90b1 : decide (t506 = (decide (a2 < 7))) = false := by simpa using c90))
     (try (have c90b2 : (t506 == (decide (a2 < 7))) = false := by simpa using c90))
     (try (have c90b3 : ¬ (t506 = (decide (a2 < 7))) := by simpa using c90))
     clear c90
     exact absurd ((Option.some.inj H).trans hrt_.out) (by decide)
    rw [if_neg c85] at H
    exact absurd H (by simp)
   rw [if_neg c84] at H
   exact absurd H (by simp)
end Go.Proofs.Ytalpcnomfebdiaa.QPredRules
