/- DiskPlays: the walk. -/
import Derived.Test.YtoninmgglcepmaaFA
import Derived.Deep.CutBlock
namespace Go.Proofs.Ytoninmgglcepmaa.Dk
open Go.ChangeMaps hiding rd
open RegD Go.RowKit Go.Proofs.YtoninmgglcepmaaW.PrintWords Go.Proofs.YtoninmgglcepmaaW.PrintLast Go.Proofs.YtoninmgglcepmaaW.PrintMore Mp QDiskPlays
attribute [local go_sem] max2_int min2_int max_two min_two max_three min_three max_four min_four
set_option linter.unusedVariables false
set_option linter.unusedSimpArgs false
theorem kind9 (k : Int) : (k = 1) ∨ (k ≠ 1 ∧ k = 2) ∨ (k ≠ 1 ∧ k ≠ 2 ∧ k = 3) ∨ (k ≠ 1 ∧ k ≠ 2 ∧ k ≠ 3 ∧ k = 4) ∨ (k ≠ 1 ∧ k ≠ 2 ∧ k ≠ 3 ∧ k ≠ 4 ∧ k = 5) ∨ (k ≠ 1 ∧ k ≠ 2 ∧ k ≠ 3 ∧ k ≠ 4 ∧ k ≠ 5 ∧ k = 6) ∨ (k ≠ 1 ∧ k ≠ 2 ∧ k ≠ 3 ∧ k ≠ 4 ∧ k ≠ 5 ∧ k ≠ 6 ∧ k = 7) ∨ (k ≠ 1 ∧ k ≠ 2 ∧ k ≠ 3 ∧ k ≠ 4 ∧ k ≠ 5 ∧ k ≠ 6 ∧ k ≠ 7 ∧ k = 8) ∨ (k ≠ 1 ∧ k ≠ 2 ∧ k ≠ 3 ∧ k ≠ 4 ∧ k ≠ 5 ∧ k ≠ 6 ∧ k ≠ 7 ∧ k ≠ 8) := by omega
/-- A call of the law, its bytes cut. -/
def askB (x : S43) (A : Option Addr) (c : Nat) (n : Nat) : Obj := .cells #[.int .i64 x.f0, .int .i64 x.f1, .string x.f2, .string x.f3, .slice A n c, .int .u8 x.f5] 43
set_option maxHeartbeats 8000000 in
set_option maxRecDepth 100000 in
theorem playsW (W : World) (A0 : Option Addr) (c0 : Nat) (l : List S43) (hr0 : Kd.C k43 W A0 l.length l) (hc0 : l.length ≤ c0) (hm0 : l.length ≤ maxLen) (ho0 : ∀ x ∈ l, ok43 x) :
    Calls Try.prog 9 #[.slice A0 l.length c0] W fun e w' => e = .returned (.bool true) ∧ Below W.heap.size W w' := by
  have HR0 := Aside0.mk hr0
  have HM0 := Aside0.mk hm0
  have HO0 := Aside0.mk ho0
  have hN := Lib.hid (stNew W)
  clear hr0 hc0 hm0 ho0
  go_enter Try.func9, Try.ntmps9
  go_wp2_with (first
    | (go_at_call 11; refine hN.out.mono ?_; rintro e w1 ⟨gd, bd, bs, vch, rfl, hS⟩; have HS := Aside0.mk hS; clear hS hN)
    | (go_at_call 24; refine (newRC w1).mono ?_; rintro e w2 ⟨rfl, hA, hb⟩; have HP := Aside0.mk (PL.new HS.out hA hb); generalize w1.heap.size = gr at *; clear hA hb HS))
  go_loopg [6, 5] (l.length + 1) (fun kq v6 v5 w' => ∃ (i : Nat) (M : List ByteArray), v6 = .int .i64 (i : Int) ∧ Aside0 (l.length + 1 ≤ kq + i ∧ i ≤ l.length ∧ i ≤ 60) ∧ Aside0 (M.length ≤ 21) ∧ Aside0 (PL W w' gd gr i v5 M))
  case atStart => exact ⟨0, [], rfl, ⟨by omega⟩, ⟨by decide⟩, HP⟩
  case round =>
    clear HP
    obtain ⟨i, M, rfl, HI, HML, HP⟩ := hrel
    obtain ⟨A8, c8, hv5⟩ := HP.out.nmSlice
    subst hv5
    obtain ⟨k1, rfl⟩ : ∃ k1, gk = k1 + 1 := ⟨gk - 1, by have := HI.out; omega⟩
    by_cases hi : i < l.length ∧ i < 60
    · have b1 : decide (i < l.length) = true := decide_eq_true hi.1
      have b2 : decide ((i : Int) < 60) = true := decide_eq_true (by omega)
      obtain ⟨ad, A4, c4, hA, e0, e1, e2, e3, e4, e5, h4, g4⟩ := at_T43 HR0.out (i : Int) (by omega) (by omega)
      subst hA
      rw [Int.toNat_natCast] at e0 e1 e2 e3 e4 e5
      have HOK : Aside0 (ok43 (rd_T43 l (i : Int))) := ⟨HO0.out _ (by rw [rd_T43, Int.toNat_natCast, List.getD_eq_getElem?_getD, List.getElem?_eq_getElem hi.1]; exact List.getElem_mem hi.1)⟩
      generalize rd_T43 l (i : Int) = x at e0 e1 e2 e3 e4 e5 h4 g4 HOK
      have hcar : ∀ {p : Addr} {v : Value}, W.cell? p = some v → wr.cell? p = some v := fun h => (HP.out.below.cell (World.block_lt_of_cell? _ _ h)).trans h
      replace e0 := hcar e0
      replace e1 := hcar e1
      replace e2 := hcar e2
      replace e3 := hcar e3
      replace e4 := hcar e4
      replace e5 := hcar e5
      clear hcar
      have HN1 := Aside0.mk (range64 HOK.out.2.1)
      have HIL := Aside0.mk hi
      have hil := hi.1
      clear hi HOK
      obtain ⟨y, hy⟩ : ∃ y, y = x.f4.take 60 := ⟨_, rfl⟩
      have HYL : Aside0 (y.length ≤ 60) := ⟨by rw [hy, List.length_take]; omega⟩
      have HY := Aside0.mk (came_cutN 60 g4 hy)
      have HYC : Aside0 (y.length ≤ c4) := ⟨by rw [hy, List.length_take]; omega⟩
      have hcw := cut60 (A := A4) hy h4
      clear g4 hy h4
      have hwi : IntKind.i64.wrap ((i : Int) + 1) = ((i + 1 : Nat) : Int) := by have := HIL.out; rw [IntKind.wrap_i64]; omega
      have HI2 : Aside0 (l.length + 1 ≤ k1 + (i + 1) ∧ i + 1 ≤ l.length ∧ i + 1 ≤ 60) := ⟨by have := HI.out; have := HIL.out; omega⟩
      have HN4 : Aside0 (i ≤ 60) := ⟨by have := HI.out; omega⟩
      have HN5 : Aside0 (i + 1 ≤ 60) := ⟨by have := HI2.out; omega⟩
      have HXy := Aside0.mk (HP.out.start (askB x A4 c4 y.length))
      clear HP
      unfold askB at *
      generalize hbx : wr.heap.size = bx at *
      go_upto_if 31 with (fail)
      go_cut [] (fun wc => Aside0 (PX W wc gd gr i (.slice A8 M.length c8) M bx (.cells #[.int .i64 x.f0, .int .i64 x.f1, .string x.f2, .string x.f3, .slice A4 y.length c4, .int .u8 x.f5] 43 (0, 0)) (.slice none 0 0) []))
      case first =>
        rcases hcw with ⟨b3, hcutv⟩ | ⟨b3, rfl⟩
        all_goals
          rw [b3]
          go_wp2
          go_meet
          case rel => exact HXy
      case rest =>
        clear HXy hcw e0 e1 e2 e3 e4 e5 hbx
        have HX := Aside0.mk hcut.out
        clear hcut
        go_upto_if 38 with (fail)
        go_cut [5] (fun v5 wc => ∃ A8 M' c8, v5 = .slice A8 M'.length c8 ∧ Aside0 (M'.length ≤ 21) ∧ Aside0 (PX W wc gd gr i (.slice A8 M'.length c8) M' bx (.cells #[.int .i64 x.f0, .int .i64 x.f1, .string x.f2, .string x.f3, .slice A4 y.length c4, .int .u8 x.f5] 43 (0, 0)) (.slice none 0 0) []))
        case first =>
          by_cases hM : M.length < 20
          · have b3 : decide ((M.length : Int) < 20) = true := decide_eq_true (by omega)
            have hc2 : wc.cell? ⟨bx, 2, none⟩ = some (.string x.f2) := blk_cell HX.out.blk 2
            have hc3 : wc.cell? ⟨bx, 3, none⟩ = some (.string x.f3) := blk_cell HX.out.blk 3
            have HMM := Aside0.mk hM
            clear hM
            have HX1 := Aside0.mk (HX.out.below (below_alloc (Below.refl _ _) (.cells #[.string x.f2, .string x.f3] 9)))
            have HRD := Aside0.mk (lit2 wc x.f2 x.f3)
            rw [b3]
            go_wp2_with ((with_reducible refine gate_builtin (b := .append) (xs := #[.tmp 39, .tmp 44]) rfl ?_); at_builtin; refine Kd.R_append_rows Kd.string (w0 := wc.alloc (.cells #[.string x.f2, .string x.f3] 9)) 0 rfl (.tmp 39) (.tmp 44) 37 9 (.string ByteArray.empty) 16 rfl Try.underlying37 info9 rfl (by decide) (by omega) (.slice A8 M.length c8) M [x.f2, x.f3] _ _ _ (fun _ => True) (fun _ => False) rfl rfl ?aO HRD.out (fun _ _ h => h) (fun _ hk => hk.elim) (fun _ _ => trivial) (Below.refl 0 _) (Nat.zero_le _) ?aL ?_; (case aO => exact HX1.out.nmRow); (case aL => have := HMM.out; omega); intro v9 w9 ho9 hb9 hg9 hat9; have HX9 := Aside0.mk (HX1.out.names rfl rfl rfl ho9 hg9 hat9); obtain ⟨A9, c9, e9⟩ := Kd.R_slice ho9; subst e9; clear ho9 hb9 hg9 hat9)
            go_meet
            case rel => exact ⟨A9, M ++ [x.f2, x.f3], c9, by first | rfl | (simp; done), ⟨by have := HMM.out; simp; omega⟩, HX9⟩
          · have b3 : decide ((M.length : Int) < 20) = false := decide_eq_false (by omega)
            clear hM
            rw [b3]
            go_wp2
            go_meet
            case rel => exact ⟨A8, M, c8, rfl, HML, HX⟩
        case rest =>
          clear HX HML
          obtain ⟨A8, M, c8, rfl, HML, HX⟩ := hcut
          have hc4 : wc.cell? ⟨bx, 4, none⟩ = some (.slice A4 y.length c4) := blk_cell HX.out.blk 4
          have hq1 := Lib.hid (HX.out.roomy rfl HYL.out HYC.out HY.out)
          go_upto_block 2 with (go_at_call 25; refine hq1.out.mono ?_; rintro e w3 ⟨AF, cF, rfl, hcF, hX_⟩; have HX2 := Aside0.mk hX_; have HCF := Aside0.mk hcF; have hc0 : w3.cell? ⟨bx, 0, none⟩ = some (.int .i64 x.f0) := blk_cell HX2.out.blk 0; clear hcF hX_)
          clear HX hq1 hc4
          have HX := HX2
          clear HX2
          go_cut [9] (fun v9 wc => v9 = .bool true ∧ Aside0 (PX W wc gd gr (i + 1) (.slice A8 M.length c8) M bx (.cells #[.int .i64 x.f0, .int .i64 x.f1, .string x.f2, .string x.f3, .slice A4 y.length c4, .int .u8 x.f5] 43 (0, 0)) (.slice AF (fullL y).length cF) (fullL y)))
          case first =>
            have hc1 : w3.cell? ⟨bx, 1, none⟩ = some (.int .i64 x.f1) := blk_cell HX.out.blk 1
            rcases kind9 x.f0 with q1 | ⟨q1, q2⟩ | ⟨q1, q2, q3⟩ | ⟨q1, q2, q3, q4⟩ | ⟨q1, q2, q3, q4, q5⟩ | ⟨q1, q2, q3, q4, q5, q6⟩ | ⟨q1, q2, q3, q4, q5, q6, q7⟩ | ⟨q1, q2, q3, q4, q5, q6, q7, q8⟩ | ⟨q1, q2, q3, q4, q5, q6, q7, q8⟩
            · have c1_ : (x.f0 == 1) = true := beq_iff_eq.2 q1
              clear q1
              go_upto_region 18 with (fail)
              refine hstart (fun w' => w'.heap[bx]? = some (.cells #[.int .i64 x.f0, .int .i64 x.f1, .string x.f2, .string x.f3, .slice A4 y.length c4, .int .u8 x.f5] 43 (0, 0))) [] 17 (by kernel_rfl) rfl (by kernel_rfl) (HX.out.blk) (fun w_ hw_ s_ => ?_)
              have HX2 := Aside0.mk (show PX W w_ gd gr i (.slice A8 M.length c8) M bx (.cells #[.int .i64 x.f0, .int .i64 x.f1, .string x.f2, .string x.f3, .slice A4 y.length c4, .int .u8 x.f5] 43 (0, 0)) (.slice AF (fullL y).length cF) (fullL y) from hw_ ▸ HX.out.below (below_drew (Below.refl _ _)))
              clear hw_ HX
              refine hpure 0 (some 53) 1 [] (v := ?_) (a' := ?_) s_ rfl rfl (by kernel_rfl) (Or.inl ⟨by rfl, ?_⟩) ?_ ?_
              rotate_left
              · intro w' s0; go_simp; with_reducible rfl
              rotate_left
              · simp only [Act.put, List.setIfInBounds_toArray, List.set_cons_zero, List.set_cons_succ, i64_w, i32_w]; rfl
              refine hpure 1 (some 54) 2 [] (v := ?_) (a' := ?_) s_ rfl rfl (by kernel_rfl) (Or.inl ⟨by rfl, ?_⟩) ?_ ?_
              rotate_left
              · intro w' s0; go_simp; with_reducible rfl
              rotate_left
              · simp only [Act.put, List.setIfInBounds_toArray, List.set_cons_zero, List.set_cons_succ, i64_w, i32_w]; rfl
              refine hpure 2 (some 55) 3 [] (v := ?_) (a' := ?_) s_ rfl rfl (by kernel_rfl) (Or.inl ⟨by rfl, ?_⟩) ?_ ?_
              rotate_left
              · intro w' s0; have s1 : w'.cell? ⟨bx, 2, none⟩ = some (.string x.f2) := blk_cell s0 2; go_simp; with_reducible rfl
              rotate_left
              · simp only [Act.put, List.setIfInBounds_toArray, List.set_cons_zero, List.set_cons_succ, i64_w, i32_w]; rfl
              refine hpure 3 (some 56) 4 [] (v := ?_) (a' := ?_) s_ rfl rfl (by kernel_rfl) (Or.inl ⟨by rfl, ?_⟩) ?_ ?_
              rotate_left
              · intro w' s0; go_simp; with_reducible rfl
              rotate_left
              · simp only [Act.put, List.setIfInBounds_toArray, List.set_cons_zero, List.set_cons_succ, i64_w, i32_w]; rfl
              refine hpure 4 (some 57) 5 [] (v := ?_) (a' := ?_) s_ rfl rfl (by kernel_rfl) (Or.inl ⟨by rfl, ?_⟩) ?_ ?_
              rotate_left
              · intro w' s0; go_simp; with_reducible rfl
              rotate_left
              · simp only [Act.put, List.setIfInBounds_toArray, List.set_cons_zero, List.set_cons_succ, i64_w, i32_w]; rfl
              refine hpure 5 (some 58) 6 [] (v := ?_) (a' := ?_) s_ rfl rfl (by kernel_rfl) (Or.inl ⟨by rfl, ?_⟩) ?_ ?_
              rotate_left
              · intro w' s0; have s1 : w'.cell? ⟨bx, 4, none⟩ = some (.slice A4 y.length c4) := blk_cell s0 4; go_simp; with_reducible rfl
              rotate_left
              · simp only [Act.put, List.setIfInBounds_toArray, List.set_cons_zero, List.set_cons_succ, i64_w, i32_w]; rfl
              refine hpure 6 (some 59) 7 [] (v := ?_) (a' := ?_) s_ rfl rfl (by kernel_rfl) (Or.inl ⟨by rfl, ?_⟩) ?_ ?_
              rotate_left
              · intro w' s0; go_simp; with_reducible rfl
              rotate_left
              · simp only [Act.put, List.setIfInBounds_toArray, List.set_cons_zero, List.set_cons_succ, i64_w, i32_w]; rfl
              refine hpure 7 (some 60) 8 [] (v := ?_) (a' := ?_) s_ rfl rfl (by kernel_rfl) (Or.inl ⟨by rfl, ?_⟩) ?_ ?_
              rotate_left
              · intro w' s0; have s1 : (Instr.slice 29 (.slice AF (fullL y).length cF) none (some (.int .i64 (y.length : Int))) none).run Try.prog w' = .ok (.slice AF y.length cF) w' := (cut_to (P := Try.prog) 29 5 .i64 Try.underlying29 (i := _) rfl AF (fullL y).length cF (y.length : Int) (by omega) (by rw [fullL_len]; omega) HCF.out w').trans (by rw [Int.toNat_natCast]); go_simp; with_reducible rfl
              rotate_left
              · simp only [Act.put, List.setIfInBounds_toArray, List.set_cons_zero, List.set_cons_succ, i64_w, i32_w]; rfl
              refine hpure 9 (some 62) 8 [9] (v := ?_) (a' := ?_) s_ rfl rfl (by kernel_rfl) (Or.inl ⟨by rfl, ?_⟩) ?_ ?_
              rotate_left
              · intro w' s0; go_simp; with_reducible rfl
              rotate_left
              · simp only [Act.put, List.setIfInBounds_toArray, List.set_cons_zero, List.set_cons_succ, i64_w, i32_w]; rfl
              refine hpure 10 (some 63) 8 [9, 10] (v := ?_) (a' := ?_) s_ rfl rfl (by kernel_rfl) (Or.inl ⟨by rfl, ?_⟩) ?_ ?_
              rotate_left
              · intro w' s0; go_simp; with_reducible rfl
              rotate_left
              · simp only [Act.put, List.setIfInBounds_toArray, List.set_cons_zero, List.set_cons_succ, i64_w, i32_w]; rfl
              refine hpure 11 (some 64) 8 [9, 10, 11] (v := ?_) (a' := ?_) s_ rfl rfl (by kernel_rfl) (Or.inl ⟨by rfl, ?_⟩) ?_ ?_
              rotate_left
              · intro w' s0; have s1 : w'.cell? ⟨bx, 2, none⟩ = some (.string x.f2) := blk_cell s0 2; go_simp; with_reducible rfl
              rotate_left
              · simp only [Act.put, List.setIfInBounds_toArray, List.set_cons_zero, List.set_cons_succ, i64_w, i32_w]; rfl
              refine hpure 12 (some 65) 8 [9, 10, 11, 12] (v := ?_) (a' := ?_) s_ rfl rfl (by kernel_rfl) (Or.inl ⟨by rfl, ?_⟩) ?_ ?_
              rotate_left
              · intro w' s0; go_simp; with_reducible rfl
              rotate_left
              · simp only [Act.put, List.setIfInBounds_toArray, List.set_cons_zero, List.set_cons_succ, i64_w, i32_w]; rfl
              refine hpure 13 (some 66) 8 [9, 10, 11, 12, 13] (v := ?_) (a' := ?_) s_ rfl rfl (by kernel_rfl) (Or.inl ⟨by rfl, ?_⟩) ?_ ?_
              rotate_left
              · intro w' s0; have s1 : w'.cell? ⟨bx, 4, none⟩ = some (.slice A4 y.length c4) := blk_cell s0 4; go_simp; with_reducible rfl
              rotate_left
              · simp only [Act.put, List.setIfInBounds_toArray, List.set_cons_zero, List.set_cons_succ, i64_w, i32_w]; rfl
              refine hcall 8 (some 61) 14 [] rfl rfl (by kernel_rfl) Try.func13 (by kernel_rfl) rfl #[.pointer (some ⟨gd, 0, none⟩), .string x.f2, .slice AF y.length cF] (by rfl) rfl (by simp only [List.map_toArray, List.map_cons, List.map_nil]; rfl) ?_
              refine (HX2.out.append (hn := HN4.out) x.f2 (c := c4) HYL.out HY.out rfl (fullL_take y).symm).mono ?_
              rintro e_ w1 ⟨v_, rfl, hb_, hc_⟩
              have HC2 := Lib.hid hc_
              clear hc_ HX2 s_
              have s_ := hb_
              clear hb_
              refine ⟨_, rfl, fun w' => w'.heap[bx]? = some (.cells #[.int .i64 x.f0, .int .i64 x.f1, .string x.f2, .string x.f3, .slice A4 y.length c4, .int .u8 x.f5] 43 (0, 0)), fun _ h => h, fun _ => s_, ?_⟩
              intro a_ ha_
              simp only [Act.put, List.setIfInBounds_toArray, List.set_cons_zero, List.set_cons_succ, i64_w, i32_w] at ha_
              subst ha_
              refine hcall 14 (some 67) 15 [] rfl rfl (by kernel_rfl) Try.func26 (by kernel_rfl) rfl #[.pointer (some ⟨gr, 0, none⟩), .string x.f2, .slice A4 y.length c4] (by rfl) rfl (by simp only [List.map_toArray, List.map_cons, List.map_nil]; rfl) ?_
              refine HC2.out.mono ?_
              rintro e_ w2 ⟨rfl, hX_⟩
              have HX3 := Aside0.mk hX_
              clear hX_ HC2 s_
              have s_ := HX3.out.blk
              refine ⟨_, rfl, fun w' => w'.heap[bx]? = some (.cells #[.int .i64 x.f0, .int .i64 x.f1, .string x.f2, .string x.f3, .slice A4 y.length c4, .int .u8 x.f5] 43 (0, 0)), fun _ h => h, fun _ => s_, ?_⟩
              intro a_ ha_
              simp only [Act.put, List.setIfInBounds_toArray, List.set_cons_zero, List.set_cons_succ, i64_w, i32_w] at ha_
              subst ha_
              refine hpure 15 (some 68) 16 [] (v := ?_) (a' := ?_) s_ rfl rfl (by kernel_rfl) (Or.inl ⟨by rfl, ?_⟩) ?_ ?_
              rotate_left
              · intro w' s0; go_simp; with_reducible rfl
              rotate_left
              · simp only [Act.put, List.setIfInBounds_toArray, List.set_cons_zero, List.set_cons_succ, i64_w, i32_w]; rfl
              refine hpure 16 (some 9) 17 [] (v := ?_) (a' := ?_) s_ rfl rfl (by kernel_rfl) (Or.inl ⟨by rfl, ?_⟩) ?_ ?_
              rotate_left
              · intro w' s0; go_simp; with_reducible rfl
              rotate_left
              · simp only [Act.put, List.setIfInBounds_toArray, List.set_cons_zero, List.set_cons_succ, i64_w, i32_w]; rfl
              refine hdone (by kernel_rfl) ?_
              go_wp2
              go_meet
              case rel => exact ⟨by first | rfl | (simp; done), HX3⟩
            · have c1_ : (x.f0 == 1) = false := beq_eq_false_iff_ne.mpr q1
              have c2_ : (x.f0 == 2) = true := beq_iff_eq.2 q2
              clear q1 q2
              go_upto_region 20 with (fail)
              refine hstart (fun w' => w'.heap[bx]? = some (.cells #[.int .i64 x.f0, .int .i64 x.f1, .string x.f2, .string x.f3, .slice A4 y.length c4, .int .u8 x.f5] 43 (0, 0))) [] 10 (by kernel_rfl) rfl (by kernel_rfl) (HX.out.blk) (fun w_ hw_ s_ => ?_)
              have HX2 := Aside0.mk (show PX W w_ gd gr i (.slice A8 M.length c8) M bx (.cells #[.int .i64 x.f0, .int .i64 x.f1, .string x.f2, .string x.f3, .slice A4 y.length c4, .int .u8 x.f5] 43 (0, 0)) (.slice AF (fullL y).length cF) (fullL y) from hw_ ▸ HX.out.below (below_drew (Below.refl _ _)))
              clear hw_ HX
              refine hpure 0 (some 71) 1 [] (v := ?_) (a' := ?_) s_ rfl rfl (by kernel_rfl) (Or.inl ⟨by rfl, ?_⟩) ?_ ?_
              rotate_left
              · intro w' s0; go_simp; with_reducible rfl
              rotate_left
              · simp only [Act.put, List.setIfInBounds_toArray, List.set_cons_zero, List.set_cons_succ, i64_w, i32_w]; rfl
              refine hpure 1 (some 72) 2 [] (v := ?_) (a' := ?_) s_ rfl rfl (by kernel_rfl) (Or.inl ⟨by rfl, ?_⟩) ?_ ?_
              rotate_left
              · intro w' s0; go_simp; with_reducible rfl
              rotate_left
              · simp only [Act.put, List.setIfInBounds_toArray, List.set_cons_zero, List.set_cons_succ, i64_w, i32_w]; rfl
              refine hpure 2 (some 73) 3 [] (v := ?_) (a' := ?_) s_ rfl rfl (by kernel_rfl) (Or.inl ⟨by rfl, ?_⟩) ?_ ?_
              rotate_left
              · intro w' s0; have s1 : w'.cell? ⟨bx, 2, none⟩ = some (.string x.f2) := blk_cell s0 2; go_simp; with_reducible rfl
              rotate_left
              · simp only [Act.put, List.setIfInBounds_toArray, List.set_cons_zero, List.set_cons_succ, i64_w, i32_w]; rfl
              refine hpure 4 (some 75) 3 [4] (v := ?_) (a' := ?_) s_ rfl rfl (by kernel_rfl) (Or.inl ⟨by rfl, ?_⟩) ?_ ?_
              rotate_left
              · intro w' s0; go_simp; with_reducible rfl
              rotate_left
              · simp only [Act.put, List.setIfInBounds_toArray, List.set_cons_zero, List.set_cons_succ, i64_w, i32_w]; rfl
              refine hpure 5 (some 76) 3 [4, 5] (v := ?_) (a' := ?_) s_ rfl rfl (by kernel_rfl) (Or.inl ⟨by rfl, ?_⟩) ?_ ?_
              rotate_left
              · intro w' s0; go_simp; with_reducible rfl
              rotate_left
              · simp only [Act.put, List.setIfInBounds_toArray, List.set_cons_zero, List.set_cons_succ, i64_w, i32_w]; rfl
              refine hpure 6 (some 77) 3 [4, 5, 6] (v := ?_) (a' := ?_) s_ rfl rfl (by kernel_rfl) (Or.inl ⟨by rfl, ?_⟩) ?_ ?_
              rotate_left
              · intro w' s0; have s1 : w'.cell? ⟨bx, 2, none⟩ = some (.string x.f2) := blk_cell s0 2; go_simp; with_reducible rfl
              rotate_left
              · simp only [Act.put, List.setIfInBounds_toArray, List.set_cons_zero, List.set_cons_succ, i64_w, i32_w]; rfl
              refine hcall 3 (some 74) 7 [] rfl rfl (by kernel_rfl) Try.func16 (by kernel_rfl) rfl #[.pointer (some ⟨gd, 0, none⟩), .string x.f2] (by rfl) rfl (by simp only [List.map_toArray, List.map_cons, List.map_nil]; rfl) ?_
              refine (HX2.out.sync HN4.out x.f2).mono ?_
              rintro e_ w1 ⟨v_, rfl, hb_, hc_⟩
              have HC2 := Lib.hid hc_
              clear hc_ HX2 s_
              have s_ := hb_
              clear hb_
              refine ⟨_, rfl, fun w' => w'.heap[bx]? = some (.cells #[.int .i64 x.f0, .int .i64 x.f1, .string x.f2, .string x.f3, .slice A4 y.length c4, .int .u8 x.f5] 43 (0, 0)), fun _ h => h, fun _ => s_, ?_⟩
              intro a_ ha_
              simp only [Act.put, List.setIfInBounds_toArray, List.set_cons_zero, List.set_cons_succ, i64_w, i32_w] at ha_
              subst ha_
              refine hcall 7 (some 78) 8 [] rfl rfl (by kernel_rfl) Try.func27 (by kernel_rfl) rfl #[.pointer (some ⟨gr, 0, none⟩), .string x.f2] (by rfl) rfl (by simp only [List.map_toArray, List.map_cons, List.map_nil]; rfl) ?_
              refine HC2.out.mono ?_
              rintro e_ w2 ⟨rfl, hX_⟩
              have HX3 := Aside0.mk hX_
              clear hX_ HC2 s_
              have s_ := HX3.out.blk
              refine ⟨_, rfl, fun w' => w'.heap[bx]? = some (.cells #[.int .i64 x.f0, .int .i64 x.f1, .string x.f2, .string x.f3, .slice A4 y.length c4, .int .u8 x.f5] 43 (0, 0)), fun _ h => h, fun _ => s_, ?_⟩
              intro a_ ha_
              simp only [Act.put, List.setIfInBounds_toArray, List.set_cons_zero, List.set_cons_succ, i64_w, i32_w] at ha_
              subst ha_
              refine hpure 8 (some 79) 9 [] (v := ?_) (a' := ?_) s_ rfl rfl (by kernel_rfl) (Or.inl ⟨by rfl, ?_⟩) ?_ ?_
              rotate_left
              · intro w' s0; go_simp; with_reducible rfl
              rotate_left
              · simp only [Act.put, List.setIfInBounds_toArray, List.set_cons_zero, List.set_cons_succ, i64_w, i32_w]; rfl
              refine hpure 9 (some 9) 10 [] (v := ?_) (a' := ?_) s_ rfl rfl (by kernel_rfl) (Or.inl ⟨by rfl, ?_⟩) ?_ ?_
              rotate_left
              · intro w' s0; go_simp; with_reducible rfl
              rotate_left
              · simp only [Act.put, List.setIfInBounds_toArray, List.set_cons_zero, List.set_cons_succ, i64_w, i32_w]; rfl
              refine hdone (by kernel_rfl) ?_
              go_wp2
              go_meet
              case rel => exact ⟨by first | rfl | (simp; done), HX3⟩
            · have c1_ : (x.f0 == 1) = false := beq_eq_false_iff_ne.mpr q1
              have c2_ : (x.f0 == 2) = false := beq_eq_false_iff_ne.mpr q2
              have c3_ : (x.f0 == 3) = true := beq_iff_eq.2 q3
              clear q1 q2 q3
              go_upto_region 22 with (fail)
              refine hstart (fun w' => w'.heap[bx]? = some (.cells #[.int .i64 x.f0, .int .i64 x.f1, .string x.f2, .string x.f3, .slice A4 y.length c4, .int .u8 x.f5] 43 (0, 0))) [] 14 (by kernel_rfl) rfl (by kernel_rfl) (HX.out.blk) (fun w_ hw_ s_ => ?_)
              have HX2 := Aside0.mk (show PX W w_ gd gr i (.slice A8 M.length c8) M bx (.cells #[.int .i64 x.f0, .int .i64 x.f1, .string x.f2, .string x.f3, .slice A4 y.length c4, .int .u8 x.f5] 43 (0, 0)) (.slice AF (fullL y).length cF) (fullL y) from hw_ ▸ HX.out.below (below_drew (Below.refl _ _)))
              clear hw_ HX
              refine hpure 0 (some 82) 1 [] (v := ?_) (a' := ?_) s_ rfl rfl (by kernel_rfl) (Or.inl ⟨by rfl, ?_⟩) ?_ ?_
              rotate_left
              · intro w' s0; go_simp; with_reducible rfl
              rotate_left
              · simp only [Act.put, List.setIfInBounds_toArray, List.set_cons_zero, List.set_cons_succ, i64_w, i32_w]; rfl
              refine hpure 1 (some 83) 2 [] (v := ?_) (a' := ?_) s_ rfl rfl (by kernel_rfl) (Or.inl ⟨by rfl, ?_⟩) ?_ ?_
              rotate_left
              · intro w' s0; go_simp; with_reducible rfl
              rotate_left
              · simp only [Act.put, List.setIfInBounds_toArray, List.set_cons_zero, List.set_cons_succ, i64_w, i32_w]; rfl
              refine hpure 2 (some 84) 3 [] (v := ?_) (a' := ?_) s_ rfl rfl (by kernel_rfl) (Or.inl ⟨by rfl, ?_⟩) ?_ ?_
              rotate_left
              · intro w' s0; have s1 : w'.cell? ⟨bx, 2, none⟩ = some (.string x.f2) := blk_cell s0 2; go_simp; with_reducible rfl
              rotate_left
              · simp only [Act.put, List.setIfInBounds_toArray, List.set_cons_zero, List.set_cons_succ, i64_w, i32_w]; rfl
              refine hpure 3 (some 85) 4 [] (v := ?_) (a' := ?_) s_ rfl rfl (by kernel_rfl) (Or.inl ⟨by rfl, ?_⟩) ?_ ?_
              rotate_left
              · intro w' s0; go_simp; with_reducible rfl
              rotate_left
              · simp only [Act.put, List.setIfInBounds_toArray, List.set_cons_zero, List.set_cons_succ, i64_w, i32_w]; rfl
              refine hpure 4 (some 86) 5 [] (v := ?_) (a' := ?_) s_ rfl rfl (by kernel_rfl) (Or.inl ⟨by rfl, ?_⟩) ?_ ?_
              rotate_left
              · intro w' s0; have s1 : w'.cell? ⟨bx, 3, none⟩ = some (.string x.f3) := blk_cell s0 3; go_simp; with_reducible rfl
              rotate_left
              · simp only [Act.put, List.setIfInBounds_toArray, List.set_cons_zero, List.set_cons_succ, i64_w, i32_w]; rfl
              refine hpure 6 (some 88) 5 [6] (v := ?_) (a' := ?_) s_ rfl rfl (by kernel_rfl) (Or.inl ⟨by rfl, ?_⟩) ?_ ?_
              rotate_left
              · intro w' s0; go_simp; with_reducible rfl
              rotate_left
              · simp only [Act.put, List.setIfInBounds_toArray, List.set_cons_zero, List.set_cons_succ, i64_w, i32_w]; rfl
              refine hpure 7 (some 89) 5 [6, 7] (v := ?_) (a' := ?_) s_ rfl rfl (by kernel_rfl) (Or.inl ⟨by rfl, ?_⟩) ?_ ?_
              rotate_left
              · intro w' s0; go_simp; with_reducible rfl
              rotate_left
              · simp only [Act.put, List.setIfInBounds_toArray, List.set_cons_zero, List.set_cons_succ, i64_w, i32_w]; rfl
              refine hpure 8 (some 90) 5 [6, 7, 8] (v := ?_) (a' := ?_) s_ rfl rfl (by kernel_rfl) (Or.inl ⟨by rfl, ?_⟩) ?_ ?_
              rotate_left
              · intro w' s0; have s1 : w'.cell? ⟨bx, 2, none⟩ = some (.string x.f2) := blk_cell s0 2; go_simp; with_reducible rfl
              rotate_left
              · simp only [Act.put, List.setIfInBounds_toArray, List.set_cons_zero, List.set_cons_succ, i64_w, i32_w]; rfl
              refine hpure 9 (some 91) 5 [6, 7, 8, 9] (v := ?_) (a' := ?_) s_ rfl rfl (by kernel_rfl) (Or.inl ⟨by rfl, ?_⟩) ?_ ?_
              rotate_left
              · intro w' s0; go_simp; with_reducible rfl
              rotate_left
              · simp only [Act.put, List.setIfInBounds_toArray, List.set_cons_zero, List.set_cons_succ, i64_w, i32_w]; rfl
              refine hpure 10 (some 92) 5 [6, 7, 8, 9, 10] (v := ?_) (a' := ?_) s_ rfl rfl (by kernel_rfl) (Or.inl ⟨by rfl, ?_⟩) ?_ ?_
              rotate_left
              · intro w' s0; have s1 : w'.cell? ⟨bx, 3, none⟩ = some (.string x.f3) := blk_cell s0 3; go_simp; with_reducible rfl
              rotate_left
              · simp only [Act.put, List.setIfInBounds_toArray, List.set_cons_zero, List.set_cons_succ, i64_w, i32_w]; rfl
              refine hcall 5 (some 87) 11 [] rfl rfl (by kernel_rfl) Try.func19 (by kernel_rfl) rfl #[.pointer (some ⟨gd, 0, none⟩), .string x.f2, .string x.f3] (by rfl) rfl (by simp only [List.map_toArray, List.map_cons, List.map_nil]; rfl) ?_
              refine (HX2.out.ren HN4.out x.f2 x.f3).mono ?_
              rintro e_ w1 ⟨v_, rfl, hb_, hc_⟩
              have HC2 := Lib.hid hc_
              clear hc_ HX2 s_
              have s_ := hb_
              clear hb_
              refine ⟨_, rfl, fun w' => w'.heap[bx]? = some (.cells #[.int .i64 x.f0, .int .i64 x.f1, .string x.f2, .string x.f3, .slice A4 y.length c4, .int .u8 x.f5] 43 (0, 0)), fun _ h => h, fun _ => s_, ?_⟩
              intro a_ ha_
              simp only [Act.put, List.setIfInBounds_toArray, List.set_cons_zero, List.set_cons_succ, i64_w, i32_w] at ha_
              subst ha_
              refine hcall 11 (some 93) 12 [] rfl rfl (by kernel_rfl) Try.func28 (by kernel_rfl) rfl #[.pointer (some ⟨gr, 0, none⟩), .string x.f2, .string x.f3] (by rfl) rfl (by simp only [List.map_toArray, List.map_cons, List.map_nil]; rfl) ?_
              refine HC2.out.mono ?_
              rintro e_ w2 ⟨rfl, hX_⟩
              have HX3 := Aside0.mk hX_
              clear hX_ HC2 s_
              have s_ := HX3.out.blk
              refine ⟨_, rfl, fun w' => w'.heap[bx]? = some (.cells #[.int .i64 x.f0, .int .i64 x.f1, .string x.f2, .string x.f3, .slice A4 y.length c4, .int .u8 x.f5] 43 (0, 0)), fun _ h => h, fun _ => s_, ?_⟩
              intro a_ ha_
              simp only [Act.put, List.setIfInBounds_toArray, List.set_cons_zero, List.set_cons_succ, i64_w, i32_w] at ha_
              subst ha_
              refine hpure 12 (some 94) 13 [] (v := ?_) (a' := ?_) s_ rfl rfl (by kernel_rfl) (Or.inl ⟨by rfl, ?_⟩) ?_ ?_
              rotate_left
              · intro w' s0; go_simp; with_reducible rfl
              rotate_left
              · simp only [Act.put, List.setIfInBounds_toArray, List.set_cons_zero, List.set_cons_succ, i64_w, i32_w]; rfl
              refine hpure 13 (some 9) 14 [] (v := ?_) (a' := ?_) s_ rfl rfl (by kernel_rfl) (Or.inl ⟨by rfl, ?_⟩) ?_ ?_
              rotate_left
              · intro w' s0; go_simp; with_reducible rfl
              rotate_left
              · simp only [Act.put, List.setIfInBounds_toArray, List.set_cons_zero, List.set_cons_succ, i64_w, i32_w]; rfl
              refine hdone (by kernel_rfl) ?_
              go_wp2
              go_meet
              case rel => exact ⟨by first | rfl | (simp; done), HX3⟩
            · have c1_ : (x.f0 == 1) = false := beq_eq_false_iff_ne.mpr q1
              have c2_ : (x.f0 == 2) = false := beq_eq_false_iff_ne.mpr q2
              have c3_ : (x.f0 == 3) = false := beq_eq_false_iff_ne.mpr q3
              have c4_ : (x.f0 == 4) = true := beq_iff_eq.2 q4
              clear q1 q2 q3 q4
              go_upto_region 24 with (fail)
              refine hstart (fun w' => w'.heap[bx]? = some (.cells #[.int .i64 x.f0, .int .i64 x.f1, .string x.f2, .string x.f3, .slice A4 y.length c4, .int .u8 x.f5] 43 (0, 0))) [] 10 (by kernel_rfl) rfl (by kernel_rfl) (HX.out.blk) (fun w_ hw_ s_ => ?_)
              have HX2 := Aside0.mk (show PX W w_ gd gr i (.slice A8 M.length c8) M bx (.cells #[.int .i64 x.f0, .int .i64 x.f1, .string x.f2, .string x.f3, .slice A4 y.length c4, .int .u8 x.f5] 43 (0, 0)) (.slice AF (fullL y).length cF) (fullL y) from hw_ ▸ HX.out.below (below_drew (Below.refl _ _)))
              clear hw_ HX
              refine hpure 0 (some 97) 1 [] (v := ?_) (a' := ?_) s_ rfl rfl (by kernel_rfl) (Or.inl ⟨by rfl, ?_⟩) ?_ ?_
              rotate_left
              · intro w' s0; go_simp; with_reducible rfl
              rotate_left
              · simp only [Act.put, List.setIfInBounds_toArray, List.set_cons_zero, List.set_cons_succ, i64_w, i32_w]; rfl
              refine hpure 1 (some 98) 2 [] (v := ?_) (a' := ?_) s_ rfl rfl (by kernel_rfl) (Or.inl ⟨by rfl, ?_⟩) ?_ ?_
              rotate_left
              · intro w' s0; go_simp; with_reducible rfl
              rotate_left
              · simp only [Act.put, List.setIfInBounds_toArray, List.set_cons_zero, List.set_cons_succ, i64_w, i32_w]; rfl
              refine hpure 2 (some 99) 3 [] (v := ?_) (a' := ?_) s_ rfl rfl (by kernel_rfl) (Or.inl ⟨by rfl, ?_⟩) ?_ ?_
              rotate_left
              · intro w' s0; have s1 : w'.cell? ⟨bx, 2, none⟩ = some (.string x.f2) := blk_cell s0 2; go_simp; with_reducible rfl
              rotate_left
              · simp only [Act.put, List.setIfInBounds_toArray, List.set_cons_zero, List.set_cons_succ, i64_w, i32_w]; rfl
              refine hpure 4 (some 101) 3 [4] (v := ?_) (a' := ?_) s_ rfl rfl (by kernel_rfl) (Or.inl ⟨by rfl, ?_⟩) ?_ ?_
              rotate_left
              · intro w' s0; go_simp; with_reducible rfl
              rotate_left
              · simp only [Act.put, List.setIfInBounds_toArray, List.set_cons_zero, List.set_cons_succ, i64_w, i32_w]; rfl
              refine hpure 5 (some 102) 3 [4, 5] (v := ?_) (a' := ?_) s_ rfl rfl (by kernel_rfl) (Or.inl ⟨by rfl, ?_⟩) ?_ ?_
              rotate_left
              · intro w' s0; go_simp; with_reducible rfl
              rotate_left
              · simp only [Act.put, List.setIfInBounds_toArray, List.set_cons_zero, List.set_cons_succ, i64_w, i32_w]; rfl
              refine hpure 6 (some 103) 3 [4, 5, 6] (v := ?_) (a' := ?_) s_ rfl rfl (by kernel_rfl) (Or.inl ⟨by rfl, ?_⟩) ?_ ?_
              rotate_left
              · intro w' s0; have s1 : w'.cell? ⟨bx, 2, none⟩ = some (.string x.f2) := blk_cell s0 2; go_simp; with_reducible rfl
              rotate_left
              · simp only [Act.put, List.setIfInBounds_toArray, List.set_cons_zero, List.set_cons_succ, i64_w, i32_w]; rfl
              refine hcall 3 (some 100) 7 [] rfl rfl (by kernel_rfl) Try.func21 (by kernel_rfl) rfl #[.pointer (some ⟨gd, 0, none⟩), .string x.f2] (by rfl) rfl (by simp only [List.map_toArray, List.map_cons, List.map_nil]; rfl) ?_
              refine (HX2.out.rem HN4.out x.f2).mono ?_
              rintro e_ w1 ⟨v_, rfl, hb_, hc_⟩
              have HC2 := Lib.hid hc_
              clear hc_ HX2 s_
              have s_ := hb_
              clear hb_
              refine ⟨_, rfl, fun w' => w'.heap[bx]? = some (.cells #[.int .i64 x.f0, .int .i64 x.f1, .string x.f2, .string x.f3, .slice A4 y.length c4, .int .u8 x.f5] 43 (0, 0)), fun _ h => h, fun _ => s_, ?_⟩
              intro a_ ha_
              simp only [Act.put, List.setIfInBounds_toArray, List.set_cons_zero, List.set_cons_succ, i64_w, i32_w] at ha_
              subst ha_
              refine hcall 7 (some 104) 8 [] rfl rfl (by kernel_rfl) Try.func29 (by kernel_rfl) rfl #[.pointer (some ⟨gr, 0, none⟩), .string x.f2] (by rfl) rfl (by simp only [List.map_toArray, List.map_cons, List.map_nil]; rfl) ?_
              refine HC2.out.mono ?_
              rintro e_ w2 ⟨rfl, hX_⟩
              have HX3 := Aside0.mk hX_
              clear hX_ HC2 s_
              have s_ := HX3.out.blk
              refine ⟨_, rfl, fun w' => w'.heap[bx]? = some (.cells #[.int .i64 x.f0, .int .i64 x.f1, .string x.f2, .string x.f3, .slice A4 y.length c4, .int .u8 x.f5] 43 (0, 0)), fun _ h => h, fun _ => s_, ?_⟩
              intro a_ ha_
              simp only [Act.put, List.setIfInBounds_toArray, List.set_cons_zero, List.set_cons_succ, i64_w, i32_w] at ha_
              subst ha_
              refine hpure 8 (some 105) 9 [] (v := ?_) (a' := ?_) s_ rfl rfl (by kernel_rfl) (Or.inl ⟨by rfl, ?_⟩) ?_ ?_
              rotate_left
              · intro w' s0; go_simp; with_reducible rfl
              rotate_left
              · simp only [Act.put, List.setIfInBounds_toArray, List.set_cons_zero, List.set_cons_succ, i64_w, i32_w]; rfl
              refine hpure 9 (some 9) 10 [] (v := ?_) (a' := ?_) s_ rfl rfl (by kernel_rfl) (Or.inl ⟨by rfl, ?_⟩) ?_ ?_
              rotate_left
              · intro w' s0; go_simp; with_reducible rfl
              rotate_left
              · simp only [Act.put, List.setIfInBounds_toArray, List.set_cons_zero, List.set_cons_succ, i64_w, i32_w]; rfl
              refine hdone (by kernel_rfl) ?_
              go_wp2
              go_meet
              case rel => exact ⟨by first | rfl | (simp; done), HX3⟩
            · have c1_ : (x.f0 == 1) = false := beq_eq_false_iff_ne.mpr q1
              have c2_ : (x.f0 == 2) = false := beq_eq_false_iff_ne.mpr q2
              have c3_ : (x.f0 == 3) = false := beq_eq_false_iff_ne.mpr q3
              have c4_ : (x.f0 == 4) = false := beq_eq_false_iff_ne.mpr q4
              have c5_ : (x.f0 == 5) = true := beq_iff_eq.2 q5
              clear q1 q2 q3 q4 q5
              have hq1 := Lib.hid (HX.out.syncDir HN4.out)
              go_wp2_with (first
                | (go_at_call 17; refine hq1.out.mono ?_; rintro e w1 ⟨rfl, hb_, hc_⟩; have hq2 := Lib.hid hc_; clear hb_ hc_ hq1)
                | (go_at_call 30; refine hq2.out.mono ?_; rintro e w2 ⟨rfl, hX_⟩; have HX3 := Aside0.mk hX_; clear hX_ hq2))
              go_meet
              case rel => exact ⟨by first | rfl | (simp; done), HX3⟩
            · have c1_ : (x.f0 == 1) = false := beq_eq_false_iff_ne.mpr q1
              have c2_ : (x.f0 == 2) = false := beq_eq_false_iff_ne.mpr q2
              have c3_ : (x.f0 == 3) = false := beq_eq_false_iff_ne.mpr q3
              have c4_ : (x.f0 == 4) = false := beq_eq_false_iff_ne.mpr q4
              have c5_ : (x.f0 == 5) = false := beq_eq_false_iff_ne.mpr q5
              have c6_ : (x.f0 == 6) = true := beq_iff_eq.2 q6
              clear q1 q2 q3 q4 q5 q6
              have hq1 := Lib.hid (HX.out.quota x.f1 HN1.out)
              go_wp2_with (first
                | (go_at_call 12; refine hq1.out.mono ?_; rintro e w1 ⟨rfl, hb_, hc_⟩; have hq2 := Lib.hid hc_; have hc1 : w1.cell? ⟨bx, 1, none⟩ = some (.int .i64 x.f1) := blk_cell hb_ 1; clear hb_ hc_ hq1)
                | (go_at_call 31; refine hq2.out.mono ?_; rintro e w2 ⟨rfl, hX_⟩; have HX3 := Aside0.mk hX_; clear hX_ hq2))
              go_meet
              case rel => exact ⟨by first | rfl | (simp; done), HX3⟩
            · have c1_ : (x.f0 == 1) = false := beq_eq_false_iff_ne.mpr q1
              have c2_ : (x.f0 == 2) = false := beq_eq_false_iff_ne.mpr q2
              have c3_ : (x.f0 == 3) = false := beq_eq_false_iff_ne.mpr q3
              have c4_ : (x.f0 == 4) = false := beq_eq_false_iff_ne.mpr q4
              have c5_ : (x.f0 == 5) = false := beq_eq_false_iff_ne.mpr q5
              have c6_ : (x.f0 == 6) = false := beq_eq_false_iff_ne.mpr q6
              have c7_ : (x.f0 == 7) = true := beq_iff_eq.2 q7
              clear q1 q2 q3 q4 q5 q6 q7
              have hq1 := Lib.hid (HX.out.crash HN4.out x.f1 HN1.out)
              go_wp2_with (first
                | (go_at_call 18; refine hq1.out.mono ?_; rintro e w1 ⟨rfl, hb_, hc_⟩; have hq2 := Lib.hid hc_; have hc1 : w1.cell? ⟨bx, 1, none⟩ = some (.int .i64 x.f1) := blk_cell hb_ 1; clear hb_ hc_ hq1)
                | (go_at_call 32; refine hq2.out.mono ?_; rintro e w2 ⟨rfl, hX_⟩; have HX3 := Aside0.mk hX_; clear hX_ hq2))
              go_meet
              case rel => exact ⟨by first | rfl | (simp; done), HX3⟩
            · have c1_ : (x.f0 == 1) = false := beq_eq_false_iff_ne.mpr q1
              have c2_ : (x.f0 == 2) = false := beq_eq_false_iff_ne.mpr q2
              have c3_ : (x.f0 == 3) = false := beq_eq_false_iff_ne.mpr q3
              have c4_ : (x.f0 == 4) = false := beq_eq_false_iff_ne.mpr q4
              have c5_ : (x.f0 == 5) = false := beq_eq_false_iff_ne.mpr q5
              have c6_ : (x.f0 == 6) = false := beq_eq_false_iff_ne.mpr q6
              have c7_ : (x.f0 == 7) = false := beq_eq_false_iff_ne.mpr q7
              have c8_ : (x.f0 == 8) = true := beq_iff_eq.2 q8
              clear q1 q2 q3 q4 q5 q6 q7 q8
              go_upto_region 35 with (fail)
              refine hstart (fun w' => w'.heap[bx]? = some (.cells #[.int .i64 x.f0, .int .i64 x.f1, .string x.f2, .string x.f3, .slice A4 y.length c4, .int .u8 x.f5] 43 (0, 0))) [] 18 (by kernel_rfl) rfl (by kernel_rfl) (HX.out.blk) (fun w_ hw_ s_ => ?_)
              have HX2 := Aside0.mk (show PX W w_ gd gr i (.slice A8 M.length c8) M bx (.cells #[.int .i64 x.f0, .int .i64 x.f1, .string x.f2, .string x.f3, .slice A4 y.length c4, .int .u8 x.f5] 43 (0, 0)) (.slice AF (fullL y).length cF) (fullL y) from hw_ ▸ HX.out.below (below_drew (Below.refl _ _)))
              clear hw_ HX
              refine hpure 0 (some 134) 1 [] (v := ?_) (a' := ?_) s_ rfl rfl (by kernel_rfl) (Or.inl ⟨by rfl, ?_⟩) ?_ ?_
              rotate_left
              · intro w' s0; go_simp; with_reducible rfl
              rotate_left
              · simp only [Act.put, List.setIfInBounds_toArray, List.set_cons_zero, List.set_cons_succ, i64_w, i32_w]; rfl
              refine hpure 1 (some 135) 2 [] (v := ?_) (a' := ?_) s_ rfl rfl (by kernel_rfl) (Or.inl ⟨by rfl, ?_⟩) ?_ ?_
              rotate_left
              · intro w' s0; go_simp; with_reducible rfl
              rotate_left
              · simp only [Act.put, List.setIfInBounds_toArray, List.set_cons_zero, List.set_cons_succ, i64_w, i32_w]; rfl
              refine hpure 2 (some 136) 3 [] (v := ?_) (a' := ?_) s_ rfl rfl (by kernel_rfl) (Or.inl ⟨by rfl, ?_⟩) ?_ ?_
              rotate_left
              · intro w' s0; have s1 : w'.cell? ⟨bx, 2, none⟩ = some (.string x.f2) := blk_cell s0 2; go_simp; with_reducible rfl
              rotate_left
              · simp only [Act.put, List.setIfInBounds_toArray, List.set_cons_zero, List.set_cons_succ, i64_w, i32_w]; rfl
              refine hpure 3 (some 137) 4 [] (v := ?_) (a' := ?_) s_ rfl rfl (by kernel_rfl) (Or.inl ⟨by rfl, ?_⟩) ?_ ?_
              rotate_left
              · intro w' s0; go_simp; with_reducible rfl
              rotate_left
              · simp only [Act.put, List.setIfInBounds_toArray, List.set_cons_zero, List.set_cons_succ, i64_w, i32_w]; rfl
              refine hpure 4 (some 138) 5 [] (v := ?_) (a' := ?_) s_ rfl rfl (by kernel_rfl) (Or.inl ⟨by rfl, ?_⟩) ?_ ?_
              rotate_left
              · intro w' s0; have s1 : w'.cell? ⟨bx, 1, none⟩ = some (.int .i64 x.f1) := blk_cell s0 1; go_simp; with_reducible rfl
              rotate_left
              · simp only [Act.put, List.setIfInBounds_toArray, List.set_cons_zero, List.set_cons_succ, i64_w, i32_w]; rfl
              refine hpure 5 (some 139) 6 [] (v := ?_) (a' := ?_) s_ rfl rfl (by kernel_rfl) (Or.inl ⟨by rfl, ?_⟩) ?_ ?_
              rotate_left
              · intro w' s0; go_simp; with_reducible rfl
              rotate_left
              · simp only [Act.put, List.setIfInBounds_toArray, List.set_cons_zero, List.set_cons_succ, i64_w, i32_w]; rfl
              refine hpure 6 (some 140) 7 [] (v := ?_) (a' := ?_) s_ rfl rfl (by kernel_rfl) (Or.inl ⟨by rfl, ?_⟩) ?_ ?_
              rotate_left
              · intro w' s0; have s1 : w'.cell? ⟨bx, 5, none⟩ = some (.int .u8 x.f5) := blk_cell s0 5; go_simp; with_reducible rfl
              rotate_left
              · simp only [Act.put, List.setIfInBounds_toArray, List.set_cons_zero, List.set_cons_succ, i64_w, i32_w]; rfl
              refine hpure 8 (some 142) 7 [8] (v := ?_) (a' := ?_) s_ rfl rfl (by kernel_rfl) (Or.inl ⟨by rfl, ?_⟩) ?_ ?_
              rotate_left
              · intro w' s0; go_simp; with_reducible rfl
              rotate_left
              · simp only [Act.put, List.setIfInBounds_toArray, List.set_cons_zero, List.set_cons_succ, i64_w, i32_w]; rfl
              refine hpure 9 (some 143) 7 [8, 9] (v := ?_) (a' := ?_) s_ rfl rfl (by kernel_rfl) (Or.inl ⟨by rfl, ?_⟩) ?_ ?_
              rotate_left
              · intro w' s0; go_simp; with_reducible rfl
              rotate_left
              · simp only [Act.put, List.setIfInBounds_toArray, List.set_cons_zero, List.set_cons_succ, i64_w, i32_w]; rfl
              refine hpure 10 (some 144) 7 [8, 9, 10] (v := ?_) (a' := ?_) s_ rfl rfl (by kernel_rfl) (Or.inl ⟨by rfl, ?_⟩) ?_ ?_
              rotate_left
              · intro w' s0; have s1 : w'.cell? ⟨bx, 2, none⟩ = some (.string x.f2) := blk_cell s0 2; go_simp; with_reducible rfl
              rotate_left
              · simp only [Act.put, List.setIfInBounds_toArray, List.set_cons_zero, List.set_cons_succ, i64_w, i32_w]; rfl
              refine hpure 11 (some 145) 7 [8, 9, 10, 11] (v := ?_) (a' := ?_) s_ rfl rfl (by kernel_rfl) (Or.inl ⟨by rfl, ?_⟩) ?_ ?_
              rotate_left
              · intro w' s0; go_simp; with_reducible rfl
              rotate_left
              · simp only [Act.put, List.setIfInBounds_toArray, List.set_cons_zero, List.set_cons_succ, i64_w, i32_w]; rfl
              refine hpure 12 (some 146) 7 [8, 9, 10, 11, 12] (v := ?_) (a' := ?_) s_ rfl rfl (by kernel_rfl) (Or.inl ⟨by rfl, ?_⟩) ?_ ?_
              rotate_left
              · intro w' s0; have s1 : w'.cell? ⟨bx, 1, none⟩ = some (.int .i64 x.f1) := blk_cell s0 1; go_simp; with_reducible rfl
              rotate_left
              · simp only [Act.put, List.setIfInBounds_toArray, List.set_cons_zero, List.set_cons_succ, i64_w, i32_w]; rfl
              refine hpure 13 (some 147) 7 [8, 9, 10, 11, 12, 13] (v := ?_) (a' := ?_) s_ rfl rfl (by kernel_rfl) (Or.inl ⟨by rfl, ?_⟩) ?_ ?_
              rotate_left
              · intro w' s0; go_simp; with_reducible rfl
              rotate_left
              · simp only [Act.put, List.setIfInBounds_toArray, List.set_cons_zero, List.set_cons_succ, i64_w, i32_w]; rfl
              refine hpure 14 (some 148) 7 [8, 9, 10, 11, 12, 13, 14] (v := ?_) (a' := ?_) s_ rfl rfl (by kernel_rfl) (Or.inl ⟨by rfl, ?_⟩) ?_ ?_
              rotate_left
              · intro w' s0; have s1 : w'.cell? ⟨bx, 5, none⟩ = some (.int .u8 x.f5) := blk_cell s0 5; go_simp; with_reducible rfl
              rotate_left
              · simp only [Act.put, List.setIfInBounds_toArray, List.set_cons_zero, List.set_cons_succ, i64_w, i32_w]; rfl
              refine hcall 7 (some 141) 15 [] rfl rfl (by kernel_rfl) Try.func23 (by kernel_rfl) rfl #[.pointer (some ⟨gd, 0, none⟩), .string x.f2, .int .i64 x.f1, .int .u8 x.f5] (by rfl) rfl (by simp only [List.map_toArray, List.map_cons, List.map_nil]; rfl) ?_
              refine (HX2.out.turn HN4.out x.f2 x.f1 x.f5).mono ?_
              rintro e_ w1 ⟨v_, rfl, hb_, hc_⟩
              have HC2 := Lib.hid hc_
              clear hc_ HX2 s_
              have s_ := hb_
              clear hb_
              refine ⟨_, rfl, fun w' => w'.heap[bx]? = some (.cells #[.int .i64 x.f0, .int .i64 x.f1, .string x.f2, .string x.f3, .slice A4 y.length c4, .int .u8 x.f5] 43 (0, 0)), fun _ h => h, fun _ => s_, ?_⟩
              intro a_ ha_
              simp only [Act.put, List.setIfInBounds_toArray, List.set_cons_zero, List.set_cons_succ, i64_w, i32_w] at ha_
              subst ha_
              refine hcall 15 (some 149) 16 [] rfl rfl (by kernel_rfl) Try.func33 (by kernel_rfl) rfl #[.pointer (some ⟨gr, 0, none⟩), .string x.f2, .int .i64 x.f1, .int .u8 x.f5] (by rfl) rfl (by simp only [List.map_toArray, List.map_cons, List.map_nil]; rfl) ?_
              refine HC2.out.mono ?_
              rintro e_ w2 ⟨rfl, hX_⟩
              have HX3 := Aside0.mk hX_
              clear hX_ HC2 s_
              have s_ := HX3.out.blk
              refine ⟨_, rfl, fun w' => w'.heap[bx]? = some (.cells #[.int .i64 x.f0, .int .i64 x.f1, .string x.f2, .string x.f3, .slice A4 y.length c4, .int .u8 x.f5] 43 (0, 0)), fun _ h => h, fun _ => s_, ?_⟩
              intro a_ ha_
              simp only [Act.put, List.setIfInBounds_toArray, List.set_cons_zero, List.set_cons_succ, i64_w, i32_w] at ha_
              subst ha_
              refine hpure 16 (some 150) 17 [] (v := ?_) (a' := ?_) s_ rfl rfl (by kernel_rfl) (Or.inl ⟨by rfl, ?_⟩) ?_ ?_
              rotate_left
              · intro w' s0; go_simp; with_reducible rfl
              rotate_left
              · simp only [Act.put, List.setIfInBounds_toArray, List.set_cons_zero, List.set_cons_succ, i64_w, i32_w]; rfl
              refine hpure 17 (some 9) 18 [] (v := ?_) (a' := ?_) s_ rfl rfl (by kernel_rfl) (Or.inl ⟨by rfl, ?_⟩) ?_ ?_
              rotate_left
              · intro w' s0; go_simp; with_reducible rfl
              rotate_left
              · simp only [Act.put, List.setIfInBounds_toArray, List.set_cons_zero, List.set_cons_succ, i64_w, i32_w]; rfl
              refine hdone (by kernel_rfl) ?_
              go_wp2
              go_meet
              case rel => exact ⟨by first | rfl | (simp; done), HX3⟩
            · have c1_ : (x.f0 == 1) = false := beq_eq_false_iff_ne.mpr q1
              have c2_ : (x.f0 == 2) = false := beq_eq_false_iff_ne.mpr q2
              have c3_ : (x.f0 == 3) = false := beq_eq_false_iff_ne.mpr q3
              have c4_ : (x.f0 == 4) = false := beq_eq_false_iff_ne.mpr q4
              have c5_ : (x.f0 == 5) = false := beq_eq_false_iff_ne.mpr q5
              have c6_ : (x.f0 == 6) = false := beq_eq_false_iff_ne.mpr q6
              have c7_ : (x.f0 == 7) = false := beq_eq_false_iff_ne.mpr q7
              have c8_ : (x.f0 == 8) = false := beq_eq_false_iff_ne.mpr q8
              clear q1 q2 q3 q4 q5 q6 q7 q8
              have HX3 := Aside0.mk HX.out.more
              go_wp2
              go_meet
              case rel => exact ⟨by first | rfl | (simp; done), HX3⟩
          case rest =>
            clear HX hc0
            obtain ⟨rfl, HX⟩ := hcut
            have hq1 := Lib.hid (HX.out.alike HN5.out rfl (by have := HML.out; omega))
            go_wp2_with (first
              | (go_at_call 34; refine hq1.out.mono ?_; rintro e w4 ⟨rfl, hX_⟩; have HX4 := Aside0.mk hX_; have hc4 : w4.cell? ⟨bx, 4, none⟩ = some (.slice A4 y.length c4) := blk_cell HX4.out.blk 4; have hq2 := Lib.hid (HX4.out.intact HYL.out HYC.out HY.out rfl rfl HCF.out); clear hX_ hq1)
              | (go_at_call 35; refine hq2.out.mono ?_; rintro e w5 ⟨rfl, hX_⟩; have HX5 := Aside0.mk hX_; clear hX_ hq2 hc4))
            go_roundg k1
            case measure => omega
            case rel => exact ⟨i + 1, M, by first | rfl | (rw [hwi]; done) | (simp [hwi]; done), HI2, HML, ⟨HX5.out.end_⟩⟩
    · have hd : decide (i < l.length) = false ∨ (decide (i < l.length) = true ∧ decide ((i : Int) < 60) = false) := by
        by_cases h1 : i < l.length
        · exact .inr ⟨decide_eq_true h1, decide_eq_false (by omega)⟩
        · exact .inl (decide_eq_false h1)
      have hk := Lib.hid (knownC wr)
      clear hi HI HM0 HR0
      rcases hd with b1 | ⟨b1, b2⟩
      all_goals
        go_wp2_with (go_at_call 15; refine hk.out.mono ?_; rintro e w8 ⟨rfl, hb⟩; have HB := Aside0.mk hb; clear hb)
        go_ret
        exact ⟨rfl, below_step HP.out.below HB.out⟩
end Go.Proofs.Ytoninmgglcepmaa.Dk
