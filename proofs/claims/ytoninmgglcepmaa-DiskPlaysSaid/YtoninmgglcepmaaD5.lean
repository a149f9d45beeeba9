/- A change of the disk: the walk of turn. -/
import Derived.Test.YtoninmgglcepmaaDA
import Derived.Test.YtoninmgglcepmaaRD
namespace Go.Proofs.Ytoninmgglcepmaa.Dk
open RegD Go.RowKit Go.ChangeMaps Go.Proofs.YtoninmgglcepmaaW.PrintWords Go.Proofs.YtoninmgglcepmaaW.PrintLast Go.Proofs.YtoninmgglcepmaaW.PrintMore Mp
attribute [local go_sem] max2_int min2_int max_two min_two max_three min_three max_four min_four
set_option linter.unusedVariables false
set_option linter.unusedSimpArgs false
theorem info66 : (Try.prog.info? 66).map (fun i => (i.zero, i.size, i.bytes)) = some (some (.agg #[.int .i64 0, .string ByteArray.empty, .string ByteArray.empty, .pointer none]), 4, 48) := by kernel_rfl
set_option maxHeartbeats 8000000 in
set_option maxRecDepth 100000 in
theorem turnC {w : World} {d : DSt} (h : DiskAt w d) (c : Chg) {l2 : List (ByteArray × Nat)} (h2 : doM d.dir c = some l2) (hlen : (d.chg.length + 1) * 48 ≤ 140737488355328) :
    Calls Try.prog 37 #[.pointer (some ⟨d.gd, 0, none⟩), .agg #[.int .i64 c.kind, .string c.name, .string c.dst, pv c.f]] w fun e w' => ∃ v1, e = .returned (.tuple #[]) ∧ DiskAt w' { d with dir := l2, vch := v1, chg := d.chg ++ [c] } ∧ (v1.ownBlock = d.vch.ownBlock ∨ ∃ b, v1.ownBlock = some b ∧ w.heap.size ≤ b) ∧ Kept w w' (Foot d) := by
  have hb := below_alloc (Below.refl w.heap.size w) (chgO c)
  have HD1 := Aside0.mk (h.below hb)
  have HX1 := Aside0.mk (blk_new w (chgO c))
  have HK1 := Aside0.mk (show Kept w (w.alloc (chgO c)) (fun _ => False) from Kept.of_below hb _)
  have hbx : some w.heap.size ≠ d.vch.ownBlock := fun he => by
    have := Kd.R_lt h.hc _ he.symm
    omega
  clear hb h
  go_enter Try.func37, Try.ntmps37
  go_upto_region 1 with (fail)
  replace HD1 : Aside0 (DiskAt (w.alloc (.cells #[.int .i64 c.kind, .string c.name, .string c.dst, pv c.f] 66)) d) := HD1
  generalize hbxe : w.heap.size = bx at *
  refine hstart (fun w' => w'.heap[d.gd]? = some (.cells #[.map (some d.bd), .map (some d.bs), d.vch, .int .i64 d.quota] 59 (0, 0)) ∧ w'.heap[bx]? = some (chgO c)) [] 6 (by kernel_rfl) rfl (by kernel_rfl) (⟨HD1.out.hd, HX1.out⟩) (fun w_ hw_ s_ => ?_)
  have HDw := Aside0.mk (show DiskAt w_ d from hw_ ▸ HD1.out.drew)
  have HXw := Aside0.mk s_.2
  have HKw := Aside0.mk (show Kept w w_ (fun _ => False) from hw_ ▸ HK1.out.drew)
  clear hw_ HD1 HX1 HK1
  refine hpure 0 (some 4) 1 [] (v := ?_) (a' := ?_) s_ rfl rfl (by kernel_rfl) (Or.inl ⟨by rfl, ?_⟩) ?_ ?_
  rotate_left
  · intro w' s0; go_simp; with_reducible rfl
  rotate_left
  · simp only [Act.put, List.setIfInBounds_toArray, List.set_cons_zero, List.set_cons_succ, i64_w, i32_w]; rfl
  refine hpure 1 (some 5) 2 [] (v := ?_) (a' := ?_) s_ rfl rfl (by kernel_rfl) (Or.inl ⟨by rfl, ?_⟩) ?_ ?_
  rotate_left
  · intro w' s0; go_simp; with_reducible rfl
  rotate_left
  · simp only [Act.put, List.setIfInBounds_toArray, List.set_cons_zero, List.set_cons_succ, i64_w, i32_w]; rfl
  refine hpure 2 (some 6) 3 [] (v := ?_) (a' := ?_) s_ rfl rfl (by kernel_rfl) (Or.inl ⟨by rfl, ?_⟩) ?_ ?_
  rotate_left
  · intro w' s0; go_simp; with_reducible rfl
  rotate_left
  · simp only [Act.put, List.setIfInBounds_toArray, List.set_cons_zero, List.set_cons_succ, i64_w, i32_w]; rfl
  refine hpure 3 (some 7) 4 [] (v := ?_) (a' := ?_) s_ rfl rfl (by kernel_rfl) (Or.inl ⟨by rfl, ?_⟩) ?_ ?_
  rotate_left
  · intro w' s0; have s1 : w'.cell? ⟨d.gd, 0, none⟩ = some (.map (some d.bd)) := blk_cell s0.1 0; go_simp; with_reducible rfl
  rotate_left
  · simp only [Act.put, List.setIfInBounds_toArray, List.set_cons_zero, List.set_cons_succ, i64_w, i32_w]; rfl
  refine hpure 4 (some 8) 5 [] (v := ?_) (a' := ?_) s_ rfl rfl (by kernel_rfl) (Or.inl ⟨by rfl, ?_⟩) ?_ ?_
  rotate_left
  · intro w' s0; have s1 : w'.cell? ⟨bx, 0, none⟩ = some (.int .i64 c.kind) := blk_cell s0.2 0; have s2 : w'.cell? ⟨bx, 1, none⟩ = some (.string c.name) := blk_cell s0.2 1; have s3 : w'.cell? ⟨bx, 2, none⟩ = some (.string c.dst) := blk_cell s0.2 2; have s4 : w'.cell? ⟨bx, 3, none⟩ = some (pv c.f) := blk_cell s0.2 3; go_simp; with_reducible rfl
  rotate_left
  · simp only [Act.put, List.setIfInBounds_toArray, List.set_cons_zero, List.set_cons_succ, i64_w, i32_w]; rfl
  refine hcall 5 (some 9) 6 [] rfl rfl (by kernel_rfl) Try.func41 (by kernel_rfl) rfl #[.map (some d.bd), .agg #[.int .i64 c.kind, .string c.name, .string c.dst, pv c.f]] (by rfl) rfl (by simp only [List.map_toArray, List.map_cons, List.map_nil]; rfl) ?_
  refine (doC HDw.out.hm c h2).mono ?_
  rintro e w2 ⟨rfl, hm, hg⟩
  have hx : w2.heap[bx]? = some (chgO c) := blk_grown HXw.out hg (fun he => by injection he with he; exact (HDw.out.ne_map HXw.out).1 he)
  have hD := Aside0.mk (HDw.out.put_dir hg hm)
  have hK := Aside0.mk (show Kept w w2 (fun k => k = d.bd) from Kept.of_grown hg (HKw.out.mono (fun _ hf => hf.elim)) (fun k he => by injection he with he; exact .inl he.symm))
  refine ⟨_, rfl, fun w' => w'.heap[d.gd]? = some (.cells #[.map (some d.bd), .map (some d.bs), d.vch, .int .i64 d.quota] 59 (0, 0)) ∧ w'.heap[bx]? = some (chgO c), fun _ h => h, fun _ => ⟨hD.out.hd, hx⟩, ?_⟩
  have HX2 := Aside0.mk hx
  clear hm hg hx HDw HXw HKw s_
  have s_ := (⟨hD.out.hd, HX2.out⟩ : _ ∧ _)
  intro a_ ha_
  simp only [Act.put, List.setIfInBounds_toArray, List.set_cons_zero, List.set_cons_succ, i64_w, i32_w] at ha_
  subst ha_
  refine hdone (by kernel_rfl) ?_
  go_upto_region 2 with (fail)
  refine hstart (fun w' => w'.heap[d.gd]? = some (.cells #[.map (some d.bd), .map (some d.bs), d.vch, .int .i64 d.quota] 59 (0, 0)) ∧ w'.heap[bx]? = some (chgO c)) [10] 11 (by kernel_rfl) rfl (by kernel_rfl) (⟨hD.out.hd, HX2.out⟩) (fun w_ hw_ s_ => ?_)
  have HDw := Aside0.mk (show DiskAt w_ { d with dir := l2 } from hw_ ▸ hD.out.drew)
  have HXw := Aside0.mk s_.2
  have HKw := Aside0.mk (show Kept w w_ (fun k => k = d.bd) from hw_ ▸ hK.out.drew)
  clear hw_ hD HX2 hK
  refine hpure 0 (some 10) 1 [] (v := ?_) (a' := ?_) s_ rfl rfl (by kernel_rfl) (Or.inl ⟨by rfl, ?_⟩) ?_ ?_
  rotate_left
  · intro w' s0; go_simp; with_reducible rfl
  rotate_left
  · simp only [Act.put, List.setIfInBounds_toArray, List.set_cons_zero, List.set_cons_succ, i64_w, i32_w]; rfl
  refine hpure 1 (some 11) 2 [] (v := ?_) (a' := ?_) s_ rfl rfl (by kernel_rfl) (Or.inl ⟨by rfl, ?_⟩) ?_ ?_
  rotate_left
  · intro w' s0; go_simp; with_reducible rfl
  rotate_left
  · simp only [Act.put, List.setIfInBounds_toArray, List.set_cons_zero, List.set_cons_succ, i64_w, i32_w]; rfl
  refine hpure 2 (some 12) 3 [] (v := ?_) (a' := ?_) s_ rfl rfl (by kernel_rfl) (Or.inl ⟨by rfl, ?_⟩) ?_ ?_
  rotate_left
  · intro w' s0; go_simp; with_reducible rfl
  rotate_left
  · simp only [Act.put, List.setIfInBounds_toArray, List.set_cons_zero, List.set_cons_succ, i64_w, i32_w]; rfl
  refine hpure 3 (some 13) 4 [] (v := ?_) (a' := ?_) s_ rfl rfl (by kernel_rfl) (Or.inl ⟨by rfl, ?_⟩) ?_ ?_
  rotate_left
  · intro w' s0; go_simp; with_reducible rfl
  rotate_left
  · simp only [Act.put, List.setIfInBounds_toArray, List.set_cons_zero, List.set_cons_succ, i64_w, i32_w]; rfl
  refine hpure 4 (some 14) 5 [] (v := ?_) (a' := ?_) s_ rfl rfl (by kernel_rfl) (Or.inl ⟨by rfl, ?_⟩) ?_ ?_
  rotate_left
  · intro w' s0; have s1 : w'.cell? ⟨d.gd, 2, none⟩ = some d.vch := blk_cell s0.1 2; go_simp; with_reducible rfl
  rotate_left
  · simp only [Act.put, List.setIfInBounds_toArray, List.set_cons_zero, List.set_cons_succ, i64_w, i32_w]; rfl
  refine hpure 5 (some 15) 6 [] (v := ?_) (a' := ?_) s_ rfl rfl (by kernel_rfl) (Or.inl ⟨by rfl, ?_⟩) ?_ ?_
  rotate_left
  · intro w' s0; have s1 : w'.cell? ⟨bx, 0, none⟩ = some (.int .i64 c.kind) := blk_cell s0.2 0; have s2 : w'.cell? ⟨bx, 1, none⟩ = some (.string c.name) := blk_cell s0.2 1; have s3 : w'.cell? ⟨bx, 2, none⟩ = some (.string c.dst) := blk_cell s0.2 2; have s4 : w'.cell? ⟨bx, 3, none⟩ = some (pv c.f) := blk_cell s0.2 3; go_simp; with_reducible rfl
  rotate_left
  · simp only [Act.put, List.setIfInBounds_toArray, List.set_cons_zero, List.set_cons_succ, i64_w, i32_w]; rfl
  refine hone 6 (some 16) 7 [] rfl rfl (by kernel_rfl) (fun K hK => ?_)
  have h1_ := HDw.out.below (below_alloc (Below.refl _ _) (chgO c))
  have h2_ := blk_below HXw.out (below_alloc (Below.refl _ _) (chgO c))
  refine value_ (w1 := w_.alloc (chgO c)) (v := .slice (some ⟨w_.heap.size, 0, none⟩) 1 1) (by rfl) rfl (by go_simp; rfl) (hK.out (fun w' => w'.heap[d.gd]? = some (.cells #[.map (some d.bd), .map (some d.bs), d.vch, .int .i64 d.quota] 59 (0, 0)) ∧ w'.heap[bx]? = some (chgO c)) _ _ (fun _ h => h) (fun _ => ⟨h1_.hd, h2_⟩) ?_)
  clear hK K
  have s_ := (⟨h1_.hd, h2_⟩ : _ ∧ _)
  have HX3 := Aside0.mk h2_
  clear h1_ h2_
  simp only [Act.put, List.setIfInBounds_toArray, List.set_cons_zero, List.set_cons_succ, i64_w, i32_w]
  refine hone 7 (some 17) 8 [] rfl rfl (by kernel_rfl) (fun K hK => ?_)
  refine Kd.R_append_step kC (w0 := w_) 0 (by rfl) (.tmp 14) (.tmp 16) 57 66 _ 48 rfl Try.underlying57 info66 rfl (by decide) (by decide) d.vch d.chg c [.int .i64 c.kind, .string c.name, .string c.dst, pv c.f] (fun _ => True) (fun _ => False) rfl rfl (kC_mkM _ _ _ c) (fun _ h => h.elim) (fun _ _ => trivial) HDw.out.hc (Below.refl 0 w_) (Nat.zero_le _) hlen ?_
  intro v1 w3 hr hb0 hg hat
  obtain ⟨A1, cp1, e1⟩ := Kd.R_slice hr
  subst e1
  have h1_ : w3.heap[d.gd]? = _ := blk_grown HDw.out.hd hg (fun he => HDw.out.gd_ch he.symm)
  have h2_ := blk_grown HXw.out hg (fun he => hbx he)
  refine hK.out (fun w' => w'.heap[d.gd]? = some (.cells #[.map (some d.bd), .map (some d.bs), d.vch, .int .i64 d.quota] 59 (0, 0)) ∧ w'.heap[bx]? = some (chgO c)) _ _ (fun _ h => h) (fun _ => ⟨h1_, h2_⟩) ?_
  clear hK K
  have s_ := (⟨h1_, h2_⟩ : _ ∧ _)
  have HR3 := Aside0.mk hr
  have HG3 := Aside0.mk hg
  have HAT := Aside0.mk hat
  have HGD := Aside0.mk h1_
  clear hr hb0 hg hat h1_ h2_
  simp only [Act.put, List.setIfInBounds_toArray, List.set_cons_zero, List.set_cons_succ, i64_w, i32_w]
  refine hpure 8 (some 18) 9 [] (v := ?_) (a' := ?_) s_ rfl rfl (by kernel_rfl) (Or.inl ⟨by rfl, ?_⟩) ?_ ?_
  rotate_left
  · intro w' s0; go_simp; with_reducible rfl
  rotate_left
  · simp only [Act.put, List.setIfInBounds_toArray, List.set_cons_zero, List.set_cons_succ, i64_w, i32_w]; rfl
  refine hpure 9 (some 19) 10 [] (v := ?_) (a' := ?_) s_ rfl rfl (by kernel_rfl) (Or.inl ⟨by rfl, ?_⟩) ?_ ?_
  rotate_left
  · intro w' s0; go_simp; with_reducible rfl
  rotate_left
  · simp only [Act.put, List.setIfInBounds_toArray, List.set_cons_zero, List.set_cons_succ, i64_w, i32_w]; rfl
  refine hone 10 none 11 [] rfl rfl (by kernel_rfl) (fun K hK => ?_)
  have hcz : w3.cell? ⟨d.gd, 2, none⟩ = some d.vch := blk_cell HGD.out 2
  have hfz := blk_frozen HGD.out 2
  have hDD := HDw.out.put_chg HR3.out HG3.out HAT.out
  have hKK : Kept w (w3.setCell ⟨d.gd, 2, none⟩ (.slice A1 (d.chg ++ [c]).length cp1)) (Foot d) := Kept.of_grown (grown_set (Below.refl w3.heap.size w3) d.gd 2 (.slice A1 (d.chg ++ [c]).length cp1)) (Kept.of_grown HG3.out (HKw.out.mono (fun k hk => .inr (.inl hk))) (fun k hk => .inl (.inr (.inr (.inr (.inl hk)))))) (fun k hk => by injection hk with hk; exact .inl (.inl hk.symm))
  refine skip_ (w1 := w3.setCell ⟨d.gd, 2, none⟩ (.slice A1 (d.chg ++ [c]).length cp1)) (by rfl) rfl (by go_simp) (hK.out (fun _ => False) _ _ (fun _ h => h.elim) (fun hn => absurd (by decide) hn) ?_)
  have HDD := Aside0.mk hDD
  have HKK := Aside0.mk hKK
  clear hDD hKK hcz hfz
  clear hK K
  refine hdone (by kernel_rfl) ?_
  go_end0
  exact ⟨_, rfl, HDD.out, HAT.out.imp id (fun ⟨b, h1, h2⟩ => ⟨b, h1, by have := HKw.out.1; omega⟩), HKK.out⟩
end Go.Proofs.Ytoninmgglcepmaa.Dk
