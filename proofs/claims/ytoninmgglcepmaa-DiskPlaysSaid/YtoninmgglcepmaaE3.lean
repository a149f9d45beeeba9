/- The document's disk: a new one, a change of its directory: the walks. -/
import Derived.Test.YtoninmgglcepmaaRT
import Derived.StillTailTactics
namespace Go.Proofs.Ytoninmgglcepmaa.Dk
open Go.ChangeMaps hiding rd
open RegD Go.RowKit Go.Proofs.YtoninmgglcepmaaW.PrintWords Go.Proofs.YtoninmgglcepmaaW.PrintLast Go.Proofs.YtoninmgglcepmaaW.PrintMore Mp QDiskPlays
attribute [local go_sem] max2_int min2_int max_two min_two max_three min_three max_four min_four
set_option linter.unusedVariables false
set_option linter.unusedSimpArgs false
theorem info88 : (Try.prog.info? 88).map (fun i => (i.zero, i.size, i.bytes)) = some (some (.agg #[.int .i64 0, .string ByteArray.empty, .string ByteArray.empty, .int .i64 0]), 4, 48) := by kernel_rfl
theorem info85 : (Try.prog.info? 85).map (fun i => (i.zero, i.size, i.bytes)) = some (some (.agg #[.slice none 0 0, .int .i64 0]), 2, 32) := by kernel_rfl
theorem nameR (s : ByteArray) (w : World) : Calls Try.prog 44 #[.string s] w fun e w' => e = .returned (.bool (!badName s)) ∧ Below w.heap.size w w' :=
  (columbariumref18_name.calls s _ w (rname s)).mono fun e w' ⟨he, hd⟩ => ⟨he, hd.below⟩
theorem findRr {w : World} {A : Option Addr} {c : Nat} {l : List S91} (h : k91.R 91 w 0 (fun _ => True) (.slice A l.length c) l) (s : ByteArray) (hl : l.length ≤ 1000000) : Calls Try.prog 45 #[.slice A l.length c, .string s] w fun e w' => e = .returned (.int .i64 (findI l s)) ∧ Below w.heap.size w w' :=
  (columbariumref18_find.calls _ A c l s _ w (Kd.R_reads' h).2.2 (Kd.R_reads' h).2.1 (rfind l s hl)).mono fun e w' ⟨he, hd⟩ => ⟨he, hd.below⟩
theorem doR {w : World} {A : Option Addr} {c : Nat} {l : List S91} (h : k91.R 91 w 0 (fun _ => True) (.slice A l.length c) l) (x : S88) (hl : l.length ≤ 1000000) : Calls Try.prog 48 #[.slice A l.length c, .agg #[.int .i64 x.f0, .string x.f1, .string x.f2, .int .i64 x.f3]] w fun e w' => ∃ v : Value, e = .returned v ∧ k91.R 91 w' w.heap.size (fun _ => True) v (doL l x) ∧ Below w.heap.size w w' :=
  columbariumref18_do.calls _ A c l x.f0 x.f1 x.f2 x.f3 _ w (Kd.R_reads' h).2.2 (Kd.R_reads' h).2.1 (rdo l x hl)
theorem did_goes {w w' : World} {gr : Nat} {vf vd vs vl v1 v2 : Value} {fs : List RF} {dir safe d1 : List S91} {log l1 : List S88} {q : Int} (hk : Kept w w' (fun k => k = gr)) (h1 : ∀ k, v1.ownBlock = some k → w.heap.size ≤ k) (h2 : ∀ k, v2.ownBlock = some k → w.heap.size ≤ k) :
    RGoes w ⟨gr, vf, vd, vs, vl, fs, dir, safe, log, q⟩ w' ⟨gr, vf, v1, vs, v2, fs, d1, safe, l1, q⟩ := by
  refine ⟨hk.mono (fun k hk => .inl hk), fun k hk => ?_, rfl⟩
  rcases hk with hk | hk | hk | hk | hk | hk
  · exact .inl (.inl hk)
  · exact .inl (.inr (.inl hk))
  · exact .inr (h1 k hk)
  · exact .inl (.inr (.inr (.inr (.inl hk))))
  · exact .inr (h2 k hk)
  · exact .inl (.inr (.inr (.inr (.inr (.inr hk)))))
set_option maxHeartbeats 8000000 in
set_option maxRecDepth 100000 in
theorem didC {w : World} {r : RSt} (h : RAt w r) (c : S88) (hd : r.dir.length ≤ 1000000) (hl : r.log.length ≤ 1000000) :
    Calls Try.prog 47 #[.pointer (some ⟨r.gr, 0, none⟩), .agg #[.int .i64 c.f0, .string c.f1, .string c.f2, .int .i64 c.f3]] w fun e w' => e = .returned (.tuple #[]) ∧ ∃ v1 v2, RAt w' { r with vd := v1, dir := doL r.dir c, vl := v2, log := r.log ++ [c] } ∧ RGoes w r w' { r with vd := v1, dir := doL r.dir c, vl := v2, log := r.log ++ [c] } := by
  have hgl := blk_lt h.hd
  obtain ⟨gr, vf, vd, vs, vl, fs, dir, safe, log, q⟩ := r
  obtain ⟨Ad, cd, ed⟩ := Kd.R_slice h.hi
  obtain ⟨Al, cl, el⟩ := Kd.R_slice h.hl
  simp only at ed el hd hl hgl
  subst ed el
  have HB := Aside0.mk (below_alloc (Below.refl w.heap.size w) (.cells #[.int .i64 c.f0, .string c.f1, .string c.f2, .int .i64 c.f3] 88))
  have HR := Aside0.mk (h.below HB.out)
  have HX := Aside0.mk (blk_new w (.cells #[.int .i64 c.f0, .string c.f1, .string c.f2, .int .i64 c.f3] 88))
  have HNE : Aside0 (w.heap.size ≠ gr) := ⟨by omega⟩
  have HDL := Aside0.mk hd
  have HLL := Aside0.mk hl
  clear h hd hl hgl
  go_enter Try.func47, Try.ntmps47
  go_upto_region 1 with (fail)
  generalize hwa : w.alloc (.cells #[.int .i64 c.f0, .string c.f1, .string c.f2, .int .i64 c.f3] 88) = wa at *
  clear hwa
  obtain ⟨bx, hbx⟩ : ∃ b, b = w.heap.size := ⟨_, rfl⟩
  rw [← hbx] at HX HNE
  simp only [← hbx]
  clear hbx
  refine hstart (fun w' => Below wa.heap.size wa w') [9] 10 (by kernel_rfl) rfl (by kernel_rfl) (below_drew (Below.refl _ _)) (fun w_ hw_ s_ => ?_)
  clear hw_
  refine hpure 0 (some 4) 1 [] (v := ?_) (a' := ?_) s_ rfl rfl (by kernel_rfl) (Or.inl ⟨by rfl, ?_⟩) ?_ ?_
  rotate_left
  · intro w' s0; go_simp; with_reducible rfl
  rotate_left
  · simp only [Act.put, List.setIfInBounds_toArray, List.set_cons_zero, List.set_cons_succ, i64_w, i32_w]; rfl
  refine hpure 1 (some 5) 2 [] (v := ?_) (a' := ?_) s_ rfl rfl (by kernel_rfl) (Or.inl ⟨by rfl, ?_⟩) ?_ ?_
  rotate_left
  · intro w' s0; go_simp; with_reducible rfl
  rotate_left
  · simp only [Act.put, List.setIfInBounds_toArray, List.set_cons_zero, List.set_cons_succ, i64_w, i32_w]; rfl
  refine hpure 2 (some 6) 3 [] (v := ?_) (a' := ?_) s_ rfl rfl (by kernel_rfl) (Or.inl ⟨by rfl, ?_⟩) ?_ ?_
  rotate_left
  · intro w' s0; go_simp; with_reducible rfl
  rotate_left
  · simp only [Act.put, List.setIfInBounds_toArray, List.set_cons_zero, List.set_cons_succ, i64_w, i32_w]; rfl
  refine hpure 3 (some 7) 4 [] (v := ?_) (a' := ?_) s_ rfl rfl (by kernel_rfl) (Or.inl ⟨by rfl, ?_⟩) ?_ ?_
  rotate_left
  · intro w' s0; go_simp; with_reducible rfl
  rotate_left
  · simp only [Act.put, List.setIfInBounds_toArray, List.set_cons_zero, List.set_cons_succ, i64_w, i32_w]; rfl
  refine hpure 4 (some 8) 5 [] (v := ?_) (a' := ?_) s_ rfl rfl (by kernel_rfl) (Or.inl ⟨by rfl, ?_⟩) ?_ ?_
  rotate_left
  · intro w' s0; have s1 : w'.cell? ⟨gr, 1, none⟩ = some (.slice Ad dir.length cd) := blk_cell (HR.out.below s0).hd 1; go_simp; with_reducible rfl
  rotate_left
  · simp only [Act.put, List.setIfInBounds_toArray, List.set_cons_zero, List.set_cons_succ, i64_w, i32_w]; rfl
  refine hpure 5 (some 9) 6 [] (v := ?_) (a' := ?_) s_ rfl rfl (by kernel_rfl) (Or.inl ⟨by rfl, ?_⟩) ?_ ?_
  rotate_left
  · intro w' s0; have s2 := blk_below HX.out s0; have x0 : w'.cell? ⟨bx, 0, none⟩ = some (.int .i64 c.f0) := blk_cell s2 0; have x1 : w'.cell? ⟨bx, 1, none⟩ = some (.string c.f1) := blk_cell s2 1; have x2 : w'.cell? ⟨bx, 2, none⟩ = some (.string c.f2) := blk_cell s2 2; have x3 : w'.cell? ⟨bx, 3, none⟩ = some (.int .i64 c.f3) := blk_cell s2 3; go_simp; with_reducible rfl
  rotate_left
  · simp only [Act.put, List.setIfInBounds_toArray, List.set_cons_zero, List.set_cons_succ, i64_w, i32_w]; rfl
  refine hcall 6 (some 10) 7 [] rfl rfl (by kernel_rfl) Try.func48 (by kernel_rfl) rfl #[.slice Ad dir.length cd, .agg #[.int .i64 c.f0, .string c.f1, .string c.f2, .int .i64 c.f3]] (by rfl) rfl (by simp only [List.map_toArray, List.map_cons, List.map_nil]; rfl) ?_
  refine (doR (HR.out.below s_).hi c HDL.out).mono ?_
  rintro e_ u1_c ⟨v2, rfl, hR_, hb_⟩
  have sb_ := below_step s_ hb_
  have H2 := Aside0.mk (⟨Kd.R_lower hR_ (Nat.zero_le _), fun k hk => Nat.le_trans s_.size (Kd.R_base hR_ k hk)⟩ : Fr k91 91 wa.heap.size u1_c _ _)
  obtain ⟨A2, c2, e2⟩ := Kd.R_slice hR_
  subst e2
  clear hR_
  refine ⟨_, rfl, fun w' => Below wa.heap.size wa w', fun _ h => h, fun _ => sb_, ?_⟩
  clear s_ hb_
  have s_ := sb_
  clear sb_
  intro a_ ha_
  simp only [Act.put, List.setIfInBounds_toArray, List.set_cons_zero, List.set_cons_succ, i64_w, i32_w] at ha_
  subst ha_
  refine hpure 7 (some 11) 8 [] (v := ?_) (a' := ?_) s_ rfl rfl (by kernel_rfl) (Or.inl ⟨by rfl, ?_⟩) ?_ ?_
  rotate_left
  · intro w' s0; go_simp; with_reducible rfl
  rotate_left
  · simp only [Act.put, List.setIfInBounds_toArray, List.set_cons_zero, List.set_cons_succ, i64_w, i32_w]; rfl
  refine hpure 8 (some 12) 9 [] (v := ?_) (a' := ?_) s_ rfl rfl (by kernel_rfl) (Or.inl ⟨by rfl, ?_⟩) ?_ ?_
  rotate_left
  · intro w' s0; go_simp; with_reducible rfl
  rotate_left
  · simp only [Act.put, List.setIfInBounds_toArray, List.set_cons_zero, List.set_cons_succ, i64_w, i32_w]; rfl
  refine hone 9 none 10 [] rfl rfl (by kernel_rfl) (fun K hK => ?_)
  have hcz : u1_c.cell? ⟨gr, 1, none⟩ = some (.slice Ad dir.length cd) := blk_cell (HR.out.below s_).hd 1
  have hfz := blk_frozen (HR.out.below s_).hd 1
  refine skip_ (w1 := u1_c.setCell ⟨gr, 1, none⟩ (.slice A2 (doL dir c).length c2)) ?hp1 ?aL1 ?hr1 ?_
  case hp1 => rfl
  case aL1 => rfl
  case hr1 => go_simp
  refine hK.out (fun _ => False) _ _ (fun _ h => h.elim) (fun hn => absurd (by decide) hn) ?_
  clear hK K
  refine hdone (by kernel_rfl) ?_
  obtain ⟨wb, hwb⟩ : ∃ x, x = u1_c.setCell ⟨gr, 1, none⟩ (.slice A2 (doL dir c).length c2) := ⟨_, rfl⟩
  have HRb := Aside0.mk (hwb ▸ HR.out.put_dir s_ H2.out.r)
  have HXb := Aside0.mk (show wb.heap[bx]? = _ from hwb ▸ (Below.heap_setCell _ _ _ _ HNE.out).trans (blk_below HX.out s_))
  have HKb := Aside0.mk (show Kept w wb (fun k => k = gr) from hwb ▸ Kept.of_grown (grown_set (Below.refl _ _) gr 1 _) ((Kept.of_below HB.out _).below s_) (fun k hk => by injection hk with hk; exact .inl hk.symm))
  have HG1 := Aside0.mk (show w.heap.size ≤ wb.heap.size from HKb.out.size)
  have HV2 := Aside0.mk (fun k (hk : (Value.slice A2 (doL dir c).length c2).ownBlock = some k) => Nat.le_trans HB.out.size (H2.out.b k hk))
  rw [← hwb]
  clear s_ hwb hcz hfz H2 HX HB HR
  go_upto_region 2 with (fail)
  refine hstart (fun w' => Below wb.heap.size wb w') [12] 13 (by kernel_rfl) rfl (by kernel_rfl) (below_drew (Below.refl _ _)) (fun w_ hw_ s_ => ?_)
  clear hw_
  refine hpure 0 (some 13) 1 [] (v := ?_) (a' := ?_) s_ rfl rfl (by kernel_rfl) (Or.inl ⟨by rfl, ?_⟩) ?_ ?_
  rotate_left
  · intro w' s0; go_simp; with_reducible rfl
  rotate_left
  · simp only [Act.put, List.setIfInBounds_toArray, List.set_cons_zero, List.set_cons_succ, i64_w, i32_w]; rfl
  refine hpure 2 (some 15) 1 [2] (v := ?_) (a' := ?_) s_ rfl rfl (by kernel_rfl) (Or.inl ⟨by rfl, ?_⟩) ?_ ?_
  rotate_left
  · intro w' s0; go_simp; with_reducible rfl
  rotate_left
  · simp only [Act.put, List.setIfInBounds_toArray, List.set_cons_zero, List.set_cons_succ, i64_w, i32_w]; rfl
  refine hpure 3 (some 16) 1 [2, 3] (v := ?_) (a' := ?_) s_ rfl rfl (by kernel_rfl) (Or.inl ⟨by rfl, ?_⟩) ?_ ?_
  rotate_left
  · intro w' s0; go_simp; with_reducible rfl
  rotate_left
  · simp only [Act.put, List.setIfInBounds_toArray, List.set_cons_zero, List.set_cons_succ, i64_w, i32_w]; rfl
  refine hpure 4 (some 17) 1 [2, 3, 4] (v := ?_) (a' := ?_) s_ rfl rfl (by kernel_rfl) (Or.inl ⟨by rfl, ?_⟩) ?_ ?_
  rotate_left
  · intro w' s0; go_simp; with_reducible rfl
  rotate_left
  · simp only [Act.put, List.setIfInBounds_toArray, List.set_cons_zero, List.set_cons_succ, i64_w, i32_w]; rfl
  refine hpure 5 (some 18) 1 [2, 3, 4, 5] (v := ?_) (a' := ?_) s_ rfl rfl (by kernel_rfl) (Or.inl ⟨by rfl, ?_⟩) ?_ ?_
  rotate_left
  · intro w' s0; have s1 : w'.cell? ⟨gr, 3, none⟩ = some (.slice Al log.length cl) := blk_cell (HRb.out.below s0).hd 3; go_simp; with_reducible rfl
  rotate_left
  · simp only [Act.put, List.setIfInBounds_toArray, List.set_cons_zero, List.set_cons_succ, i64_w, i32_w]; rfl
  refine hpure 7 (some 20) 1 [2, 3, 4, 5, 7] (v := ?_) (a' := ?_) s_ rfl rfl (by kernel_rfl) (Or.inl ⟨by rfl, ?_⟩) ?_ ?_
  rotate_left
  · intro w' s0; have s2 := blk_below HXb.out s0; have x0 : w'.cell? ⟨bx, 0, none⟩ = some (.int .i64 c.f0) := blk_cell s2 0; have x1 : w'.cell? ⟨bx, 1, none⟩ = some (.string c.f1) := blk_cell s2 1; have x2 : w'.cell? ⟨bx, 2, none⟩ = some (.string c.f2) := blk_cell s2 2; have x3 : w'.cell? ⟨bx, 3, none⟩ = some (.int .i64 c.f3) := blk_cell s2 3; go_simp; with_reducible rfl
  rotate_left
  · simp only [Act.put, List.setIfInBounds_toArray, List.set_cons_zero, List.set_cons_succ, i64_w, i32_w]; rfl
  refine htwo 1 8 (some 14) (some 21) 6 [7] 1 [2, 3, 4, 5, 7, 8] rfl rfl rfl rfl (by kernel_rfl) (fun K hK => ?_) (fun K hK => ?_)
  · refine Kd.R_lit_step k88 (w0 := w_) 0 88 (by rfl) (N := 14) rfl (xs := ([] : List S88)) (inner := []) (ok := fun _ => True) (okp := fun _ => True) ?hr1 ?hp1 (fun _ hk => hk) trivial (Below.refl 0 w_) (Nat.zero_le _) (by simp) ?_
    case hr1 => first | (go_simp; done) | (go_simp; rfl)
    case hp1 => exact (Reps.none _ _)
    intro v3 u1_3 ho_ hb_ hg_ hn_
    clear hb_
    have H3 := Aside0.mk (Fr.lit ho_ hn_ s_.size)
    have sb_ := below_none s_ hg_
    obtain ⟨A3, c3, e3⟩ := Kd.R_slice ho_
    subst e3
    refine hK.out (fun w' => Below wb.heap.size wb w') _ _ (fun _ h => h) (fun _ => sb_) ?_
    clear hK K s_
    have s_ := sb_
    clear sb_ ho_ hg_ hn_
    simp only [Act.put, List.setIfInBounds_toArray, List.set_cons_zero, List.set_cons_succ, i64_w, i32_w]
    refine htwo 6 8 (some 19) (some 21) 8 [] 6 [7, 8] rfl rfl rfl rfl (by kernel_rfl) (fun K hK => ?_) (fun K hK => ?_)
    · refine Kd.R_append_rows_step k88 (w0 := u1_3) 0 (by rfl) (.tmp 14) (.tmp 18) 78 88 _ 48 rfl Try.underlying78 info88 rfl (by decide) (by decide) (.slice A3 0 c3) ([] : List S88) log _ _ _ (fun _ => True) (fun _ => False) rfl rfl H3.out.r (Kd.R_reads' (HRb.out.below s_).hl).2.2 (fun x cs h => by rw [k88_open h]; exact k88_mkM _ _ _ x) (fun _ h => h.elim) (fun _ _ => trivial) (Below.refl 0 u1_3) (Nat.zero_le _) ?aL2 ?_
      case aL2 => (have := HLL.out; show (0 + log.length) * 48 ≤ _; omega)
      intro v4 u2_4 ho_ hb_ hg_ hn_
      clear hb_
      have H4 := Aside0.mk (H3.out.appended ho_ hn_ s_.size)
      have sb_ := H3.out.below s_ hg_
      obtain ⟨A4, c4, e4⟩ := Kd.R_slice ho_
      subst e4
      clear H3
      refine hK.out (fun w' => Below wb.heap.size wb w') _ _ (fun _ h => h) (fun _ => sb_) ?_
      clear hK K s_
      have s_ := sb_
      clear sb_ ho_ hg_ hn_
      simp only [Act.put, List.setIfInBounds_toArray, List.set_cons_zero, List.set_cons_succ, i64_w, i32_w]
      refine hone 8 (some 21) 9 [] rfl rfl (by kernel_rfl) (fun K hK => ?_)
      refine Kd.R_lit_step k88 (w0 := u2_4) 0 88 (by rfl) (N := 21) rfl (xs := ([c] : List S88)) (inner := [.int .i64 c.f0, .string c.f1, .string c.f2, .int .i64 c.f3]) (ok := fun _ => True) (okp := fun _ => True) ?hr3 ?hp3 (fun _ hk => hk) trivial (Below.refl 0 u2_4) (Nat.zero_le _) (by simp) ?_
      case hr3 => first | (go_simp; done) | (go_simp; rfl)
      case hp3 => exact (Reps.c4 (k88_mkM _ _ _ c) (Reps.none _ _))
      intro vc u3_c ho_ hb_ hg_ hn_
      clear hb_
      have Hc := Aside0.mk (Fr.lit ho_ hn_ s_.size)
      have N4_c := H4.out.ne_new hn_
      have H4' := Aside0.mk (H4.out.grown rfl hg_ (fun k _ he => by cases he))
      clear H4
      have H4 := H4'
      clear H4'
      have sb_ := below_none s_ hg_
      obtain ⟨Ac, cc, ec⟩ := Kd.R_slice ho_
      subst ec
      refine hK.out (fun w' => Below wb.heap.size wb w') _ _ (fun _ h => h) (fun _ => sb_) ?_
      clear hK K s_
      have s_ := sb_
      clear sb_ ho_ hg_ hn_
      simp only [Act.put, List.setIfInBounds_toArray, List.set_cons_zero, List.set_cons_succ, i64_w, i32_w]
      refine hone 9 (some 22) 10 [] rfl rfl (by kernel_rfl) (fun K hK => ?_)
      refine Kd.R_append_rows_step k88 (w0 := u3_c) 0 (by rfl) (.tmp 19) (.tmp 21) 78 88 _ 48 rfl Try.underlying78 info88 rfl (by decide) (by decide) (.slice A4 log.length c4) (log : List S88) [c] _ _ _ (fun _ => True) (fun _ => False) rfl rfl H4.out.r (Kd.R_reads' Hc.out.r).2.2 (fun x cs h => by rw [k88_open h]; exact k88_mkM _ _ _ x) (fun _ h => h.elim) (fun _ _ => trivial) (Below.refl 0 u3_c) (Nat.zero_le _) ?aL4 ?_
      case aL4 => (have := HLL.out; show (log.length + 1) * 48 ≤ _; omega)
      intro v5 u4_5 ho_ hb_ hg_ hn_
      clear hb_
      have H5 := Aside0.mk (H4.out.appended ho_ hn_ s_.size)
      have Nc_5 := Hc.out.ne_app (ne_symm N4_c) hn_
      have Hc' := Aside0.mk (Hc.out.grown rfl hg_ (ne_symm N4_c))
      clear Hc
      have Hc := Hc'
      clear Hc'
      have sb_ := H4.out.below s_ hg_
      obtain ⟨A5, c5, e5⟩ := Kd.R_slice ho_
      rw [show (log ++ [c] : List S88).length = (log.length + 1) from by simp] at e5
      subst e5
      clear H4
      refine hK.out (fun w' => Below wb.heap.size wb w') _ _ (fun _ h => h) (fun _ => sb_) ?_
      clear hK K s_
      have s_ := sb_
      clear sb_ ho_ hg_ hn_
      simp only [Act.put, List.setIfInBounds_toArray, List.set_cons_zero, List.set_cons_succ, i64_w, i32_w]
      refine hpure 10 (some 23) 11 [] (v := ?_) (a' := ?_) s_ rfl rfl (by kernel_rfl) (Or.inl ⟨by rfl, ?_⟩) ?_ ?_
      rotate_left
      · intro w' s0; go_simp; with_reducible rfl
      rotate_left
      · simp only [Act.put, List.setIfInBounds_toArray, List.set_cons_zero, List.set_cons_succ, i64_w, i32_w]; rfl
      refine hpure 11 (some 24) 12 [] (v := ?_) (a' := ?_) s_ rfl rfl (by kernel_rfl) (Or.inl ⟨by rfl, ?_⟩) ?_ ?_
      rotate_left
      · intro w' s0; go_simp; with_reducible rfl
      rotate_left
      · simp only [Act.put, List.setIfInBounds_toArray, List.set_cons_zero, List.set_cons_succ, i64_w, i32_w]; rfl
      refine hone 12 none 13 [] rfl rfl (by kernel_rfl) (fun K hK => ?_)
      have hcz : u4_5.cell? ⟨gr, 3, none⟩ = some (.slice Al log.length cl) := blk_cell (HRb.out.below s_).hd 3
      have hfz := blk_frozen (HRb.out.below s_).hd 3
      refine skip_ (w1 := u4_5.setCell ⟨gr, 3, none⟩ (.slice A5 (log.length + 1) c5)) ?hp2 ?aL2 ?hr2 ?_
      case hp2 => rfl
      case aL2 => rfl
      case hr2 => go_simp
      refine hK.out (fun _ => False) _ _ (fun _ h => h.elim) (fun hn => absurd (by decide) hn) ?_
      clear hK K
      refine hdone (by kernel_rfl) ?_
      have HRc := Aside0.mk (HRb.out.put_log s_ H5.out.r)
      have HKc := Aside0.mk (show Kept w (u4_5.setCell ⟨gr, 3, none⟩ (.slice A5 (log.length + 1) c5)) (fun k => k = gr) from Kept.of_grown (grown_set (Below.refl _ _) gr 3 _) (HKb.out.below s_) (fun k hk => by injection hk with hk; exact .inl hk.symm))
      have HV5 := Aside0.mk (fun k (hk : (Value.slice A5 (log.length + 1) c5).ownBlock = some k) => Nat.le_trans HG1.out (H5.out.b k hk))
      go_end0
      exact ⟨rfl, _, _, HRc.out, did_goes HKc.out HV2.out HV5.out⟩
    · refine Kd.R_lit_step k88 (w0 := u1_3) 0 88 (by rfl) (N := 21) rfl (xs := ([c] : List S88)) (inner := [.int .i64 c.f0, .string c.f1, .string c.f2, .int .i64 c.f3]) (ok := fun _ => True) (okp := fun _ => True) ?hr5 ?hp5 (fun _ hk => hk) trivial (Below.refl 0 u1_3) (Nat.zero_le _) (by simp) ?_
      case hr5 => first | (go_simp; done) | (go_simp; rfl)
      case hp5 => exact (Reps.c4 (k88_mkM _ _ _ c) (Reps.none _ _))
      intro vc u2_c ho_ hb_ hg_ hn_
      clear hb_
      have Hc := Aside0.mk (Fr.lit ho_ hn_ s_.size)
      have N3_c := H3.out.ne_new hn_
      have H3' := Aside0.mk (H3.out.grown rfl hg_ (fun k _ he => by cases he))
      clear H3
      have H3 := H3'
      clear H3'
      have sb_ := below_none s_ hg_
      obtain ⟨Ac, cc, ec⟩ := Kd.R_slice ho_
      subst ec
      refine hK.out (fun w' => Below wb.heap.size wb w') _ _ (fun _ h => h) (fun _ => sb_) ?_
      clear hK K s_
      have s_ := sb_
      clear sb_ ho_ hg_ hn_
      simp only [Act.put, List.setIfInBounds_toArray, List.set_cons_zero, List.set_cons_succ, i64_w, i32_w]
      refine hone 6 (some 19) 9 [] rfl rfl (by kernel_rfl) (fun K hK => ?_)
      refine Kd.R_append_rows_step k88 (w0 := u2_c) 0 (by rfl) (.tmp 14) (.tmp 18) 78 88 _ 48 rfl Try.underlying78 info88 rfl (by decide) (by decide) (.slice A3 0 c3) ([] : List S88) log _ _ _ (fun _ => True) (fun _ => False) rfl rfl H3.out.r (Kd.R_reads' (HRb.out.below s_).hl).2.2 (fun x cs h => by rw [k88_open h]; exact k88_mkM _ _ _ x) (fun _ h => h.elim) (fun _ _ => trivial) (Below.refl 0 u2_c) (Nat.zero_le _) ?aL6 ?_
      case aL6 => (have := HLL.out; show (0 + log.length) * 48 ≤ _; omega)
      intro v4 u3_4 ho_ hb_ hg_ hn_
      clear hb_
      have H4 := Aside0.mk (H3.out.appended ho_ hn_ s_.size)
      have Nc_4 := Hc.out.ne_app (ne_symm N3_c) hn_
      have Hc' := Aside0.mk (Hc.out.grown rfl hg_ (ne_symm N3_c))
      clear Hc
      have Hc := Hc'
      clear Hc'
      have sb_ := H3.out.below s_ hg_
      obtain ⟨A4, c4, e4⟩ := Kd.R_slice ho_
      subst e4
      clear H3
      refine hK.out (fun w' => Below wb.heap.size wb w') _ _ (fun _ h => h) (fun _ => sb_) ?_
      clear hK K s_
      have s_ := sb_
      clear sb_ ho_ hg_ hn_
      simp only [Act.put, List.setIfInBounds_toArray, List.set_cons_zero, List.set_cons_succ, i64_w, i32_w]
      refine hone 9 (some 22) 10 [] rfl rfl (by kernel_rfl) (fun K hK => ?_)
      refine Kd.R_append_rows_step k88 (w0 := u3_4) 0 (by rfl) (.tmp 19) (.tmp 21) 78 88 _ 48 rfl Try.underlying78 info88 rfl (by decide) (by decide) (.slice A4 log.length c4) (log : List S88) [c] _ _ _ (fun _ => True) (fun _ => False) rfl rfl H4.out.r (Kd.R_reads' Hc.out.r).2.2 (fun x cs h => by rw [k88_open h]; exact k88_mkM _ _ _ x) (fun _ h => h.elim) (fun _ _ => trivial) (Below.refl 0 u3_4) (Nat.zero_le _) ?aL7 ?_
      case aL7 => (have := HLL.out; show (log.length + 1) * 48 ≤ _; omega)
      intro v5 u4_5 ho_ hb_ hg_ hn_
      clear hb_
      have H5 := Aside0.mk (H4.out.appended ho_ hn_ s_.size)
      have Nc_5 := Hc.out.ne_app Nc_4 hn_
      have Hc' := Aside0.mk (Hc.out.grown rfl hg_ Nc_4)
      clear Hc
      have Hc := Hc'
      clear Hc'
      have sb_ := H4.out.below s_ hg_
      obtain ⟨A5, c5, e5⟩ := Kd.R_slice ho_
      rw [show (log ++ [c] : List S88).length = (log.length + 1) from by simp] at e5
      subst e5
      clear H4
      refine hK.out (fun w' => Below wb.heap.size wb w') _ _ (fun _ h => h) (fun _ => sb_) ?_
      clear hK K s_
      have s_ := sb_
      clear sb_ ho_ hg_ hn_
      simp only [Act.put, List.setIfInBounds_toArray, List.set_cons_zero, List.set_cons_succ, i64_w, i32_w]
      refine hpure 10 (some 23) 11 [] (v := ?_) (a' := ?_) s_ rfl rfl (by kernel_rfl) (Or.inl ⟨by rfl, ?_⟩) ?_ ?_
      rotate_left
      · intro w' s0; go_simp; with_reducible rfl
      rotate_left
      · simp only [Act.put, List.setIfInBounds_toArray, List.set_cons_zero, List.set_cons_succ, i64_w, i32_w]; rfl
      refine hpure 11 (some 24) 12 [] (v := ?_) (a' := ?_) s_ rfl rfl (by kernel_rfl) (Or.inl ⟨by rfl, ?_⟩) ?_ ?_
      rotate_left
      · intro w' s0; go_simp; with_reducible rfl
      rotate_left
      · simp only [Act.put, List.setIfInBounds_toArray, List.set_cons_zero, List.set_cons_succ, i64_w, i32_w]; rfl
      refine hone 12 none 13 [] rfl rfl (by kernel_rfl) (fun K hK => ?_)
      have hcz : u4_5.cell? ⟨gr, 3, none⟩ = some (.slice Al log.length cl) := blk_cell (HRb.out.below s_).hd 3
      have hfz := blk_frozen (HRb.out.below s_).hd 3
      refine skip_ (w1 := u4_5.setCell ⟨gr, 3, none⟩ (.slice A5 (log.length + 1) c5)) ?hp3 ?aL3 ?hr3 ?_
      case hp3 => rfl
      case aL3 => rfl
      case hr3 => go_simp
      refine hK.out (fun _ => False) _ _ (fun _ h => h.elim) (fun hn => absurd (by decide) hn) ?_
      clear hK K
      refine hdone (by kernel_rfl) ?_
      have HRc := Aside0.mk (HRb.out.put_log s_ H5.out.r)
      have HKc := Aside0.mk (show Kept w (u4_5.setCell ⟨gr, 3, none⟩ (.slice A5 (log.length + 1) c5)) (fun k => k = gr) from Kept.of_grown (grown_set (Below.refl _ _) gr 3 _) (HKb.out.below s_) (fun k hk => by injection hk with hk; exact .inl hk.symm))
      have HV5 := Aside0.mk (fun k (hk : (Value.slice A5 (log.length + 1) c5).ownBlock = some k) => Nat.le_trans HG1.out (H5.out.b k hk))
      go_end0
      exact ⟨rfl, _, _, HRc.out, did_goes HKc.out HV2.out HV5.out⟩
  · refine Kd.R_lit_step k88 (w0 := w_) 0 88 (by rfl) (N := 21) rfl (xs := ([c] : List S88)) (inner := [.int .i64 c.f0, .string c.f1, .string c.f2, .int .i64 c.f3]) (ok := fun _ => True) (okp := fun _ => True) ?hr8 ?hp8 (fun _ hk => hk) trivial (Below.refl 0 w_) (Nat.zero_le _) (by simp) ?_
    case hr8 => first | (go_simp; done) | (go_simp; rfl)
    case hp8 => exact (Reps.c4 (k88_mkM _ _ _ c) (Reps.none _ _))
    intro vc u1_c ho_ hb_ hg_ hn_
    clear hb_
    have Hc := Aside0.mk (Fr.lit ho_ hn_ s_.size)
    have sb_ := below_none s_ hg_
    obtain ⟨Ac, cc, ec⟩ := Kd.R_slice ho_
    subst ec
    refine hK.out (fun w' => Below wb.heap.size wb w') _ _ (fun _ h => h) (fun _ => sb_) ?_
    clear hK K s_
    have s_ := sb_
    clear sb_ ho_ hg_ hn_
    simp only [Act.put, List.setIfInBounds_toArray, List.set_cons_zero, List.set_cons_succ, i64_w, i32_w]
    refine hone 1 (some 14) 6 [7, 8] rfl rfl (by kernel_rfl) (fun K hK => ?_)
    refine Kd.R_lit_step k88 (w0 := u1_c) 0 88 (by rfl) (N := 14) rfl (xs := ([] : List S88)) (inner := []) (ok := fun _ => True) (okp := fun _ => True) ?hr9 ?hp9 (fun _ hk => hk) trivial (Below.refl 0 u1_c) (Nat.zero_le _) (by simp) ?_
    case hr9 => first | (go_simp; done) | (go_simp; rfl)
    case hp9 => exact (Reps.none _ _)
    intro v3 u2_3 ho_ hb_ hg_ hn_
    clear hb_
    have H3 := Aside0.mk (Fr.lit ho_ hn_ s_.size)
    have Nc_3 := Hc.out.ne_new hn_
    have Hc' := Aside0.mk (Hc.out.grown rfl hg_ (fun k _ he => by cases he))
    clear Hc
    have Hc := Hc'
    clear Hc'
    have sb_ := below_none s_ hg_
    obtain ⟨A3, c3, e3⟩ := Kd.R_slice ho_
    subst e3
    refine hK.out (fun w' => Below wb.heap.size wb w') _ _ (fun _ h => h) (fun _ => sb_) ?_
    clear hK K s_
    have s_ := sb_
    clear sb_ ho_ hg_ hn_
    simp only [Act.put, List.setIfInBounds_toArray, List.set_cons_zero, List.set_cons_succ, i64_w, i32_w]
    refine hone 6 (some 19) 9 [] rfl rfl (by kernel_rfl) (fun K hK => ?_)
    refine Kd.R_append_rows_step k88 (w0 := u2_3) 0 (by rfl) (.tmp 14) (.tmp 18) 78 88 _ 48 rfl Try.underlying78 info88 rfl (by decide) (by decide) (.slice A3 0 c3) ([] : List S88) log _ _ _ (fun _ => True) (fun _ => False) rfl rfl H3.out.r (Kd.R_reads' (HRb.out.below s_).hl).2.2 (fun x cs h => by rw [k88_open h]; exact k88_mkM _ _ _ x) (fun _ h => h.elim) (fun _ _ => trivial) (Below.refl 0 u2_3) (Nat.zero_le _) ?aL10 ?_
    case aL10 => (have := HLL.out; show (0 + log.length) * 48 ≤ _; omega)
    intro v4 u3_4 ho_ hb_ hg_ hn_
    clear hb_
    have H4 := Aside0.mk (H3.out.appended ho_ hn_ s_.size)
    have Nc_4 := Hc.out.ne_app Nc_3 hn_
    have Hc' := Aside0.mk (Hc.out.grown rfl hg_ Nc_3)
    clear Hc
    have Hc := Hc'
    clear Hc'
    have sb_ := H3.out.below s_ hg_
    obtain ⟨A4, c4, e4⟩ := Kd.R_slice ho_
    subst e4
    clear H3
    refine hK.out (fun w' => Below wb.heap.size wb w') _ _ (fun _ h => h) (fun _ => sb_) ?_
    clear hK K s_
    have s_ := sb_
    clear sb_ ho_ hg_ hn_
    simp only [Act.put, List.setIfInBounds_toArray, List.set_cons_zero, List.set_cons_succ, i64_w, i32_w]
    refine hone 9 (some 22) 10 [] rfl rfl (by kernel_rfl) (fun K hK => ?_)
    refine Kd.R_append_rows_step k88 (w0 := u3_4) 0 (by rfl) (.tmp 19) (.tmp 21) 78 88 _ 48 rfl Try.underlying78 info88 rfl (by decide) (by decide) (.slice A4 log.length c4) (log : List S88) [c] _ _ _ (fun _ => True) (fun _ => False) rfl rfl H4.out.r (Kd.R_reads' Hc.out.r).2.2 (fun x cs h => by rw [k88_open h]; exact k88_mkM _ _ _ x) (fun _ h => h.elim) (fun _ _ => trivial) (Below.refl 0 u3_4) (Nat.zero_le _) ?aL11 ?_
    case aL11 => (have := HLL.out; show (log.length + 1) * 48 ≤ _; omega)
    intro v5 u4_5 ho_ hb_ hg_ hn_
    clear hb_
    have H5 := Aside0.mk (H4.out.appended ho_ hn_ s_.size)
    have Nc_5 := Hc.out.ne_app Nc_4 hn_
    have Hc' := Aside0.mk (Hc.out.grown rfl hg_ Nc_4)
    clear Hc
    have Hc := Hc'
    clear Hc'
    have sb_ := H4.out.below s_ hg_
    obtain ⟨A5, c5, e5⟩ := Kd.R_slice ho_
    rw [show (log ++ [c] : List S88).length = (log.length + 1) from by simp] at e5
    subst e5
    clear H4
    refine hK.out (fun w' => Below wb.heap.size wb w') _ _ (fun _ h => h) (fun _ => sb_) ?_
    clear hK K s_
    have s_ := sb_
    clear sb_ ho_ hg_ hn_
    simp only [Act.put, List.setIfInBounds_toArray, List.set_cons_zero, List.set_cons_succ, i64_w, i32_w]
    refine hpure 10 (some 23) 11 [] (v := ?_) (a' := ?_) s_ rfl rfl (by kernel_rfl) (Or.inl ⟨by rfl, ?_⟩) ?_ ?_
    rotate_left
    · intro w' s0; go_simp; with_reducible rfl
    rotate_left
    · simp only [Act.put, List.setIfInBounds_toArray, List.set_cons_zero, List.set_cons_succ, i64_w, i32_w]; rfl
    refine hpure 11 (some 24) 12 [] (v := ?_) (a' := ?_) s_ rfl rfl (by kernel_rfl) (Or.inl ⟨by rfl, ?_⟩) ?_ ?_
    rotate_left
    · intro w' s0; go_simp; with_reducible rfl
    rotate_left
    · simp only [Act.put, List.setIfInBounds_toArray, List.set_cons_zero, List.set_cons_succ, i64_w, i32_w]; rfl
    refine hone 12 none 13 [] rfl rfl (by kernel_rfl) (fun K hK => ?_)
    have hcz : u4_5.cell? ⟨gr, 3, none⟩ = some (.slice Al log.length cl) := blk_cell (HRb.out.below s_).hd 3
    have hfz := blk_frozen (HRb.out.below s_).hd 3
    refine skip_ (w1 := u4_5.setCell ⟨gr, 3, none⟩ (.slice A5 (log.length + 1) c5)) ?hp4 ?aL4 ?hr4 ?_
    case hp4 => rfl
    case aL4 => rfl
    case hr4 => go_simp
    refine hK.out (fun _ => False) _ _ (fun _ h => h.elim) (fun hn => absurd (by decide) hn) ?_
    clear hK K
    refine hdone (by kernel_rfl) ?_
    have HRc := Aside0.mk (HRb.out.put_log s_ H5.out.r)
    have HKc := Aside0.mk (show Kept w (u4_5.setCell ⟨gr, 3, none⟩ (.slice A5 (log.length + 1) c5)) (fun k => k = gr) from Kept.of_grown (grown_set (Below.refl _ _) gr 3 _) (HKb.out.below s_) (fun k hk => by injection hk with hk; exact .inl hk.symm))
    have HV5 := Aside0.mk (fun k (hk : (Value.slice A5 (log.length + 1) c5).ownBlock = some k) => Nat.le_trans HG1.out (H5.out.b k hk))
    go_end0
    exact ⟨rfl, _, _, HRc.out, did_goes HKc.out HV2.out HV5.out⟩
end Go.Proofs.Ytoninmgglcepmaa.Dk
