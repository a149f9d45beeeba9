/- The document's Turn: the walk. -/
import Derived.Test.YtoninmgglcepmaaEA
namespace Go.Proofs.Ytoninmgglcepmaa.Dk
open Go.ChangeMaps hiding rd
open RegD Reg Go.RowKit Go.Proofs.YtoninmgglcepmaaW.PrintWords Go.Proofs.YtoninmgglcepmaaW.PrintLast Go.Proofs.YtoninmgglcepmaaW.PrintMore Mp QDiskPlays
attribute [local go_sem] max2_int min2_int max_two min_two max_three min_three max_four min_four
set_option linter.unusedVariables false
set_option linter.unusedSimpArgs false
/-- One file's bytes are others, that have been made since. -/
theorem bytes_goes {w w' : World} {gr : Nat} {gf cf : Nat} {vd vs vl : Value} {fs : List RF} {dir safe : List S91} {log : List S88} {q : Int} {i : Nat} {x : RF} (hk : Kept w w' (fun k => k = gf)) (hx : 0 < x.bs.length → ∀ ad, x.A = some ad → w.heap.size ≤ ad.block) :
    RGoes w ⟨gr, .slice (some ⟨gf, 0, none⟩) fs.length cf, vd, vs, vl, fs, dir, safe, log, q⟩ w' ⟨gr, .slice (some ⟨gf, 0, none⟩) fs.length cf, vd, vs, vl, fs.set i x, dir, safe, log, q⟩ := by
  refine ⟨hk.mono (fun k hk => .inr (by rw [hk]; rfl)), fun k hk => ?_, rfl⟩
  rcases hk with hk | hk | hk | hk | hk | ⟨f, hf, hp, ad, hA, he⟩
  · exact .inl (.inl hk)
  · exact .inl (.inr (.inl hk))
  · exact .inl (.inr (.inr (.inl hk)))
  · exact .inl (.inr (.inr (.inr (.inl hk))))
  · exact .inl (.inr (.inr (.inr (.inr (.inl hk)))))
  · rcases List.mem_or_eq_of_mem_set hf with hf | rfl
    · exact .inl (.inr (.inr (.inr (.inr (.inr ⟨f, hf, hp, ad, hA, he⟩)))))
    · exact .inr (he ▸ hx hp ad hA)
section
variable {w w1 w4 : World} {gr gf cf i g2 c2 n2 : Nat} {vd vs vl : Value} {fs : List RF} {dir safe : List S91} {log : List S88} {q : Int} {bs : List Int}
  (h : RAt w ⟨gr, .slice (some ⟨gf, 0, none⟩) fs.length cf, vd, vs, vl, fs, dir, safe, log, q⟩) (hil : i < fs.length) (hb : Below w.heap.size w w1) (hR : Kd.R (Kd.int .u8) 5 w1 0 (fun _ => True) (.slice (some ⟨g2, 0, none⟩) bs.length c2) bs) (hg : w.heap.size ≤ g2) (hw : w4 = w1.setCell ⟨gf, i * 2, none⟩ (.slice (some ⟨g2, 0, none⟩) bs.length c2))
include h hil hb hR hg hw
theorem turn_cells {m : Nat} (hm : m < bs.length) : ∀ w', Below w4.heap.size w4 w' → w'.cell? ⟨gr, 0, none⟩ = some (.slice (some ⟨gf, 0, none⟩) fs.length cf) ∧ w'.cell? ⟨gf, i * 2, none⟩ = some (.slice (some ⟨g2, 0, none⟩) bs.length c2) ∧ w'.cell? ⟨g2, m, none⟩ = some (.int .u8 (rd bs (m : Int))) ∧ w'.frozen? ⟨g2, m, none⟩ = false := by
  intro w' hb'
  have hRb := Kd.R_reads' hR
  have h4 := h.set_bytes hil (A := some ⟨g2, 0, none⟩) (c := c2) (bs := bs) rfl hb ⟨hRb.2.2, hRb.2.1⟩ (fun _ ad hA => by injection hA with hA; rw [← hA]; exact hg)
  rw [← hw] at h4
  have h5 := h4.below hb'
  have hi2 : i < (fs.set i ⟨some ⟨g2, 0, none⟩, c2, bs, fs[i].safe⟩).length := by rw [List.length_set]; exact hil
  have hgf : gf < w.heap.size := h.foot (.inr (.inl rfl))
  obtain ⟨cs, hcs⟩ := Kd.R_typed hR g2 rfl
  have hg2 : w'.heap[g2]? = some (.cells cs 5 (0, 0)) := by
    have e1 : w4.heap[g2]? = some (.cells cs 5 (0, 0)) := by rw [hw]; exact (Below.heap_setCell _ _ _ _ (show g2 ≠ gf by omega)).trans hcs
    exact blk_below e1 hb'
  obtain ⟨adb, hA, hcb⟩ := Kd.at_int hRb.2.2 (m : Int) (by omega) (by omega)
  obtain rfl : (⟨g2, 0, none⟩ : Addr) = adb := by injection hA
  rw [Int.toNat_natCast, add0] at hcb
  refine ⟨blk_cell h5.hd 0, ?_, ?_, blk_frozen hg2 m⟩
  · obtain ⟨g3, c3, e3, h6, -, -⟩ := h5.file_cells hi2
    injection e3 with e3
    injection e3 with e3
    injection e3 with e3
    subst e3
    rw [List.getElem_set_self] at h6
    exact h6
  · rw [blk_cell hg2 m, ← blk_cell hcs m]
    exact hcb
theorem turn_end {wz : World} (hz : Below w4.heap.size w4 wz) {m : Nat} {v : Int} :
    RAt (wz.setCell ⟨g2, m, none⟩ (.int .u8 v)) ⟨gr, .slice (some ⟨gf, 0, none⟩) fs.length cf, vd, vs, vl, fs.set i ⟨some ⟨g2, 0, none⟩, c2, bs.set m v, fs[i].safe⟩, dir, safe, log, q⟩ ∧ RGoes w ⟨gr, .slice (some ⟨gf, 0, none⟩) fs.length cf, vd, vs, vl, fs, dir, safe, log, q⟩ (wz.setCell ⟨g2, m, none⟩ (.int .u8 v)) ⟨gr, .slice (some ⟨gf, 0, none⟩) fs.length cf, vd, vs, vl, fs.set i ⟨some ⟨g2, 0, none⟩, c2, bs.set m v, fs[i].safe⟩, dir, safe, log, q⟩ := by
  have hgf : gf < w.heap.size := h.foot (.inr (.inl rfl))
  have hsz := hb.size
  have hr2 := Kd.R_put (enc := Value.int .u8) (h1 := fun _ => rfl) (xs := bs) hR (m : Int) v
  rw [Int.toNat_natCast] at hr2
  have hr3 := Kd.R_reads' hr2.1
  have hb1 : Below w.heap.size w (w1.setCell ⟨g2, m, none⟩ (.int .u8 v)) := below_set hb hg
  have hA := h.set_bytes hil (A := some ⟨g2, 0, none⟩) (c := c2) (bs := bs.set m v) rfl hb1 ⟨by rw [List.length_set]; have e1 := hr3.2.2; first | exact e1 | (rw [List.length_set] at e1; exact e1), by rw [List.length_set]; have e1 := hr3.2.1; first | exact e1 | (rw [List.length_set] at e1; exact e1)⟩ (fun _ ad hA => by injection hA with hA; rw [← hA]; exact hg)
  rw [List.length_set] at hA
  obtain ⟨cs, hcs⟩ := Kd.R_typed hR g2 rfl
  obtain ⟨cf1, hcf⟩ := Kd.R_typed (h.below hb).hf gf rfl
  have h4s : w4.heap.size = w1.heap.size := by rw [hw]; simp [World.setCell]
  have e4 : ∀ k, k ≠ gf → w4.heap[k]? = w1.heap[k]? := fun k hk => by rw [hw]; exact Below.heap_setCell _ _ _ _ hk
  have ez : ∀ k, k < w4.heap.size → wz.heap[k]? = w4.heap[k]? := fun k hk => hz.block k hk
  refine ⟨hA.move fun k hk => ?_, bytes_goes (Kept.of_grown (grown_set (Below.refl _ _) g2 m _) ((Kept.of_grown (grown_set (Below.refl w1.heap.size w1) gf (i * 2) (.slice (some ⟨g2, 0, none⟩) bs.length c2)) (Kept.of_below hb (fun k => k = gf)) (fun k hk => by injection hk with hk; exact .inl hk.symm)).below (hw ▸ hz)) (fun k hk => by injection hk with hk; exact .inr (by omega))) (fun _ ad hA => by injection hA with hA; rw [← hA]; exact hg)⟩
  have hkl := hA.foot hk
  have hks : k < w1.heap.size := by simpa [World.setCell] using hkl
  by_cases h1 : k = g2
  · subst h1
    have a1 : wz.heap[k]? = some (.cells cs 5 (0, 0)) := (ez k (by omega)).trans ((e4 k (by omega)).trans hcs)
    rw [blk_set a1 m _, Below.heap_setCell _ _ _ _ (show k ≠ gf by omega), blk_set hcs m _]
  · rw [Below.heap_setCell _ _ _ _ h1, ez k (by omega)]
    by_cases h2 : k = gf
    · subst h2
      rw [hw, blk_set hcf (i * 2) _, blk_set ((Below.heap_setCell _ _ _ _ h1).trans hcf) (i * 2) _]
    · rw [e4 k h2, Below.heap_setCell _ _ _ _ h2, Below.heap_setCell _ _ _ _ h1]
end
set_option maxHeartbeats 8000000 in
set_option maxRecDepth 100000 in
theorem turnR0 {w : World} {r : RSt} (h : RAt w r) (s : ByteArray) (a x : Int) (hd : r.dir.length ≤ 1000000) (hk : findI r.dir s < 0) :
    Calls Try.prog 33 #[.pointer (some ⟨r.gr, 0, none⟩), .string s, .int .i64 a, .int .u8 x] w fun e w' => e = .returned (.bool false) ∧ Below w.heap.size w w' := by
  obtain ⟨Ad, cd, ed⟩ := Kd.R_slice h.hi
  have HED := Aside0.mk ed
  have HR := Aside0.mk h
  have HDL := Aside0.mk hd
  have HF := Lib.hid (findRr (HED.out ▸ h.hi) s HDL.out)
  have hc : w.cell? ⟨r.gr, 1, none⟩ = some (.slice Ad r.dir.length cd) := HED.out ▸ blk_cell h.hd 1
  clear h hd ed
  have b1 : decide (findI r.dir s < 0) = true := decide_eq_true hk
  clear hk
  generalize findI r.dir s = k at *
  go_enter Try.func33, Try.ntmps33
  go_wp2_with (go_at_call 45; refine HF.out.mono ?_; rintro e w3 ⟨rfl, hb⟩; have HB3 := Aside0.mk hb; clear hb)
  go_ret
  exact ⟨rfl, HB3.out⟩
set_option maxHeartbeats 8000000 in
set_option maxRecDepth 100000 in
theorem turnR1 {w : World} {r : RSt} (h : RAt w r) (s : ByteArray) (a x : Int) (hd : r.dir.length ≤ 1000000) {i : Nat} (hf : findI r.dir s = (i : Int)) (hil : i < r.fs.length) (ha : ¬ (0 ≤ a ∧ a < r.fs[i].bs.length)) :
    Calls Try.prog 33 #[.pointer (some ⟨r.gr, 0, none⟩), .string s, .int .i64 a, .int .u8 x] w fun e w' => e = .returned (.bool false) ∧ Below w.heap.size w w' := by
  obtain ⟨gr, vf, vd, vs, vl, fs, dir, safe, log, q⟩ := r
  obtain ⟨Ad, cd, ed⟩ := Kd.R_slice h.hi
  simp only at ed hd hf hil ha
  subst ed
  obtain ⟨gf, cf, ef, _⟩ := h.file_cells hil
  simp only at ef
  subst ef
  have HR := Aside0.mk h
  have HF := Lib.hid (findRr h.hi s hd)
  simp only [hf] at HF
  have hc : w.cell? ⟨gr, 1, none⟩ = some (.slice Ad dir.length cd) := blk_cell h.hd 1
  have hdd : decide (a < 0) = true ∨ (decide (a < 0) = false ∧ decide ((fs[i].bs.length : Int) ≤ a) = true) := by
    by_cases h1 : a < 0
    · exact .inl (decide_eq_true h1)
    · exact .inr ⟨decide_eq_false h1, decide_eq_true (by omega)⟩
  have b0 : decide ((i : Int) < 0) = false := decide_eq_false (by omega)
  clear h hd hf ha
  rcases hdd with b1 | ⟨b1, b2⟩
  all_goals
    go_enter Try.func33, Try.ntmps33
    go_wp2_with (go_at_call 45; refine HF.out.mono ?_; rintro e w3 ⟨rfl, hb⟩; have HB3 := Aside0.mk hb; have hz0 : w3.cell? ⟨gr, 0, none⟩ = some (.slice (some ⟨gf, 0, none⟩) fs.length cf) := blk_cell (HR.out.below hb).hd 0; have hz1 := (file_at (HR.out.below hb) hil).1; clear hb)
    go_ret
    exact ⟨rfl, HB3.out⟩
set_option maxHeartbeats 8000000 in
set_option maxRecDepth 100000 in
theorem turnROk {w : World} {r : RSt} (h : RAt w r) (s : ByteArray) (m : Nat) (x : Int) (hd : r.dir.length ≤ 1000000) {i : Nat} (hf : findI r.dir s = (i : Int)) (hil : i < r.fs.length) (hbl : r.fs[i].bs.length ≤ 1000000) (hm : m < r.fs[i].bs.length) :
    Calls Try.prog 33 #[.pointer (some ⟨r.gr, 0, none⟩), .string s, .int .i64 (m : Int), .int .u8 x] w fun e w' => e = .returned (.bool true) ∧ ∃ A c, RAt w' { r with fs := r.fs.set i ⟨A, c, r.fs[i].bs.set m (bits .xor .u8 (rd r.fs[i].bs (m : Int)) x), r.fs[i].safe⟩ } ∧ RGoes w r w' { r with fs := r.fs.set i ⟨A, c, r.fs[i].bs.set m (bits .xor .u8 (rd r.fs[i].bs (m : Int)) x), r.fs[i].safe⟩ } := by
  obtain ⟨gr, vf, vd, vs, vl, fs, dir, safe, log, q⟩ := r
  obtain ⟨Ad, cd, ed⟩ := Kd.R_slice h.hi
  simp only at ed hd hf hil hbl hm
  subst ed
  obtain ⟨gf, cf, ef, _⟩ := h.file_cells hil
  simp only at ef
  subst ef
  have HR := Aside0.mk h
  have HBL := Aside0.mk hbl
  have HM := Aside0.mk hm
  have HF := Lib.hid (findRr h.hi s hd)
  simp only [hf] at HF
  have hc : w.cell? ⟨gr, 1, none⟩ = some (.slice Ad dir.length cd) := blk_cell h.hd 1
  have b0 : decide ((i : Int) < 0) = false := decide_eq_false (by omega)
  have b1 : decide ((m : Int) < 0) = false := decide_eq_false (by omega)
  have b2 : decide ((fs[i].bs.length : Int) ≤ (m : Int)) = false := decide_eq_false (by omega)
  clear h hd hf hbl
  go_enter Try.func33, Try.ntmps33
  go_upto_region 4 with (go_at_call 45; refine HF.out.mono ?_; rintro e w2 ⟨rfl, hb⟩; have HB2 := Aside0.mk hb; have hz0 : w2.cell? ⟨gr, 0, none⟩ = some (.slice (some ⟨gf, 0, none⟩) fs.length cf) := blk_cell (HR.out.below hb).hd 0; have hz1 := (file_at (HR.out.below hb) hil).1; clear hb)
  have HR2 := Aside0.mk (HR.out.below HB2.out)
  clear hc HF HR hz0 hz1
  refine hstart (fun w' => Below w2.heap.size w2 w') [17] 18 (by kernel_rfl) rfl (by kernel_rfl) (below_drew (Below.refl _ _)) (fun w_ hw_ s_ => ?_)
  clear hw_
  refine hpure 0 (some 35) 1 [] (v := ?_) (a' := ?_) s_ rfl rfl (by kernel_rfl) (Or.inl ⟨by rfl, ?_⟩) ?_ ?_
  rotate_left
  · intro w' s0; go_simp; with_reducible rfl
  rotate_left
  · simp only [Act.put, List.setIfInBounds_toArray, List.set_cons_zero, List.set_cons_succ, i64_w, i32_w]; rfl
  refine hpure 1 (some 36) 2 [] (v := ?_) (a' := ?_) s_ rfl rfl (by kernel_rfl) (Or.inl ⟨by rfl, ?_⟩) ?_ ?_
  rotate_left
  · intro w' s0; go_simp; with_reducible rfl
  rotate_left
  · simp only [Act.put, List.setIfInBounds_toArray, List.set_cons_zero, List.set_cons_succ, i64_w, i32_w]; rfl
  refine hpure 2 (some 37) 3 [] (v := ?_) (a' := ?_) s_ rfl rfl (by kernel_rfl) (Or.inl ⟨by rfl, ?_⟩) ?_ ?_
  rotate_left
  · intro w' s0; go_simp; with_reducible rfl
  rotate_left
  · simp only [Act.put, List.setIfInBounds_toArray, List.set_cons_zero, List.set_cons_succ, i64_w, i32_w]; rfl
  refine hpure 3 (some 38) 4 [] (v := ?_) (a' := ?_) s_ rfl rfl (by kernel_rfl) (Or.inl ⟨by rfl, ?_⟩) ?_ ?_
  rotate_left
  · intro w' s0; have s1 : w'.cell? ⟨gr, 0, none⟩ = some (.slice (some ⟨gf, 0, none⟩) fs.length cf) := blk_cell (HR2.out.below s0).hd 0; go_simp; with_reducible rfl
  rotate_left
  · simp only [Act.put, List.setIfInBounds_toArray, List.set_cons_zero, List.set_cons_succ, i64_w, i32_w]; rfl
  refine hpure 4 (some 39) 5 [] (v := ?_) (a' := ?_) s_ rfl rfl (by kernel_rfl) (Or.inl ⟨by rfl, ?_⟩) ?_ ?_
  rotate_left
  · intro w' s0; go_simp; with_reducible rfl
  rotate_left
  · simp only [Act.put, List.setIfInBounds_toArray, List.set_cons_zero, List.set_cons_succ, i64_w, i32_w]; rfl
  refine hpure 6 (some 41) 5 [6] (v := ?_) (a' := ?_) s_ rfl rfl (by kernel_rfl) (Or.inl ⟨by rfl, ?_⟩) ?_ ?_
  rotate_left
  · intro w' s0; go_simp; with_reducible rfl
  rotate_left
  · simp only [Act.put, List.setIfInBounds_toArray, List.set_cons_zero, List.set_cons_succ, i64_w, i32_w]; rfl
  refine hpure 7 (some 42) 5 [6, 7] (v := ?_) (a' := ?_) s_ rfl rfl (by kernel_rfl) (Or.inl ⟨by rfl, ?_⟩) ?_ ?_
  rotate_left
  · intro w' s0; go_simp; with_reducible rfl
  rotate_left
  · simp only [Act.put, List.setIfInBounds_toArray, List.set_cons_zero, List.set_cons_succ, i64_w, i32_w]; rfl
  refine hpure 8 (some 43) 5 [6, 7, 8] (v := ?_) (a' := ?_) s_ rfl rfl (by kernel_rfl) (Or.inl ⟨by rfl, ?_⟩) ?_ ?_
  rotate_left
  · intro w' s0; go_simp; with_reducible rfl
  rotate_left
  · simp only [Act.put, List.setIfInBounds_toArray, List.set_cons_zero, List.set_cons_succ, i64_w, i32_w]; rfl
  refine hpure 9 (some 44) 5 [6, 7, 8, 9] (v := ?_) (a' := ?_) s_ rfl rfl (by kernel_rfl) (Or.inl ⟨by rfl, ?_⟩) ?_ ?_
  rotate_left
  · intro w' s0; have s1 : w'.cell? ⟨gr, 0, none⟩ = some (.slice (some ⟨gf, 0, none⟩) fs.length cf) := blk_cell (HR2.out.below s0).hd 0; go_simp; with_reducible rfl
  rotate_left
  · simp only [Act.put, List.setIfInBounds_toArray, List.set_cons_zero, List.set_cons_succ, i64_w, i32_w]; rfl
  refine hpure 10 (some 45) 5 [6, 7, 8, 9, 10] (v := ?_) (a' := ?_) s_ rfl rfl (by kernel_rfl) (Or.inl ⟨by rfl, ?_⟩) ?_ ?_
  rotate_left
  · intro w' s0; go_simp; with_reducible rfl
  rotate_left
  · simp only [Act.put, List.setIfInBounds_toArray, List.set_cons_zero, List.set_cons_succ, i64_w, i32_w]; rfl
  refine hpure 11 (some 46) 5 [6, 7, 8, 9, 10, 11] (v := ?_) (a' := ?_) s_ rfl rfl (by kernel_rfl) (Or.inl ⟨by rfl, ?_⟩) ?_ ?_
  rotate_left
  · intro w' s0; go_simp; with_reducible rfl
  rotate_left
  · simp only [Act.put, List.setIfInBounds_toArray, List.set_cons_zero, List.set_cons_succ, i64_w, i32_w]; rfl
  refine hpure 12 (some 47) 5 [6, 7, 8, 9, 10, 11, 12] (v := ?_) (a' := ?_) s_ rfl rfl (by kernel_rfl) (Or.inl ⟨by rfl, ?_⟩) ?_ ?_
  rotate_left
  · intro w' s0; go_simp; with_reducible rfl
  rotate_left
  · simp only [Act.put, List.setIfInBounds_toArray, List.set_cons_zero, List.set_cons_succ, i64_w, i32_w]; rfl
  refine hpure 13 (some 48) 5 [6, 7, 8, 9, 10, 11, 12, 13] (v := ?_) (a' := ?_) s_ rfl rfl (by kernel_rfl) (Or.inl ⟨by rfl, ?_⟩) ?_ ?_
  rotate_left
  · intro w' s0; have s1 : w'.cell? ⟨gf, i * 2, none⟩ = some (.slice fs[i].A fs[i].bs.length fs[i].c) := (file_at (HR2.out.below s0) hil).1; go_simp; with_reducible rfl
  rotate_left
  · simp only [Act.put, List.setIfInBounds_toArray, List.set_cons_zero, List.set_cons_succ, i64_w, i32_w]; rfl
  refine hone 5 (some 40) 14 [] rfl rfl (by kernel_rfl) (fun K hK => ?_)
  refine Kd.R_lit_step (Kd.int .u8) (w0 := w_) 0 5 (by rfl) (N := 40) rfl (xs := ([] : List Int)) (inner := []) (ok := fun _ => True) (okp := fun _ => True) ?hr1 ?hp1 (fun _ hk => hk) trivial (Below.refl 0 w_) (Nat.zero_le _) (by simp) ?_
  case hr1 => first | (go_simp; done) | (go_simp; rfl)
  case hp1 => exact (Reps.none _ _)
  intro v1 u1_1 ho_ hb_ hg_ hn_
  clear hb_
  have H1 := Aside0.mk (Fr.lit ho_ hn_ s_.size)
  have sb_ := below_none s_ hg_
  obtain ⟨A1, c1, e1⟩ := Kd.R_slice ho_
  subst e1
  refine hK.out (fun w' => Below w2.heap.size w2 w') _ _ (fun _ h => h) (fun _ => sb_) ?_
  clear hK K s_
  have s_ := sb_
  clear sb_ ho_ hg_ hn_
  simp only [Act.put, List.setIfInBounds_toArray, List.set_cons_zero, List.set_cons_succ, i64_w, i32_w]
  refine hone 14 (some 49) 15 [] rfl rfl (by kernel_rfl) (fun K hK => ?_)
  refine Kd.R_append_rows_step (Kd.int .u8) (w0 := u1_1) 0 (by rfl) (.tmp 40) (.tmp 48) 29 5 (.int .u8 0) 1 rfl Try.underlying29 info5 rfl (by decide) (by decide) (.slice A1 0 c1) ([] : List Int) fs[i].bs _ _ _ (fun _ => True) (fun _ => False) rfl rfl H1.out.r ((HR2.out.below s_).hb _ (List.getElem_mem hil)).1 (fun _ _ h => h) (fun _ h => h.elim) (fun _ _ => trivial) (Below.refl 0 u1_1) (Nat.zero_le _) ?aL2 ?_
  case aL2 => (have := HBL.out; show (0 + fs[i].bs.length) * 1 ≤ _; omega)
  intro v2 u2_2 ho_ hb_ hg_ hn_
  clear hb_
  have H2 := Aside0.mk (H1.out.appended ho_ hn_ s_.size)
  have sb_ := H1.out.below s_ hg_
  obtain ⟨A2, c2, e2⟩ := Kd.R_slice ho_
  subst e2
  clear H1
  refine hK.out (fun w' => Below w2.heap.size w2 w') _ _ (fun _ h => h) (fun _ => sb_) ?_
  clear hK K s_
  have s_ := sb_
  clear sb_ ho_ hg_ hn_
  simp only [Act.put, List.setIfInBounds_toArray, List.set_cons_zero, List.set_cons_succ, i64_w, i32_w]
  refine hpure 15 (some 50) 16 [] (v := ?_) (a' := ?_) s_ rfl rfl (by kernel_rfl) (Or.inl ⟨by rfl, ?_⟩) ?_ ?_
  rotate_left
  · intro w' s0; go_simp; with_reducible rfl
  rotate_left
  · simp only [Act.put, List.setIfInBounds_toArray, List.set_cons_zero, List.set_cons_succ, i64_w, i32_w]; rfl
  refine hpure 16 (some 51) 17 [] (v := ?_) (a' := ?_) s_ rfl rfl (by kernel_rfl) (Or.inl ⟨by rfl, ?_⟩) ?_ ?_
  rotate_left
  · intro w' s0; go_simp; with_reducible rfl
  rotate_left
  · simp only [Act.put, List.setIfInBounds_toArray, List.set_cons_zero, List.set_cons_succ, i64_w, i32_w]; rfl
  refine hone 17 none 18 [] rfl rfl (by kernel_rfl) (fun K hK => ?_)
  have hcz : u2_2.cell? ⟨gf, i * 2, none⟩ = some (.slice fs[i].A fs[i].bs.length fs[i].c) := (file_at (HR2.out.below s_) hil).1
  have hfz : u2_2.frozen? ⟨gf, i * 2, none⟩ = false := (file_at (HR2.out.below s_) hil).2.2 _
  refine skip_ (w1 := u2_2.setCell ⟨gf, i * 2, none⟩ (.slice A2 fs[i].bs.length c2)) ?hp3 ?aL3 ?hr3 ?_
  case hp3 => rfl
  case aL3 => rfl
  case hr3 => go_simp
  refine hK.out (fun _ => False) _ _ (fun _ h => h.elim) (fun hn => absurd (by decide) hn) ?_
  clear hK K
  clear hcz hfz
  refine hdone (by kernel_rfl) ?_
  replace H2 : Aside0 (Fr (Kd.int .u8) 5 w2.heap.size u2_2 (.slice A2 fs[i].bs.length c2) fs[i].bs) := H2
  obtain ⟨g2, c2b, e2, -, -, -⟩ := Kd.R_form H2.out.r (by have := HM.out; omega)
  injection e2 with e2
  subst e2
  have HS4 := Aside0.mk s_
  have HG4 := Aside0.mk (H2.out.b g2 rfl)
  obtain ⟨w4, hw4⟩ : ∃ w4, w4 = u2_2.setCell ⟨gf, i * 2, none⟩ (.slice (some ⟨g2, 0, none⟩) fs[i].bs.length c2) := ⟨_, rfl⟩
  rw [← hw4]
  have HW4 := Aside0.mk hw4
  have HC4 := Aside0.mk (turn_cells HR2.out hil HS4.out H2.out.r HG4.out hw4 HM.out)
  clear hw4 s_
  go_upto_region 5 with (fail)
  refine hstart (fun w' => Below w4.heap.size w4 w') [23] 24 (by kernel_rfl) rfl (by kernel_rfl) (below_drew (Below.refl _ _)) (fun w_ hw_ s_ => ?_)
  clear hw_
  refine hpure 0 (some 52) 1 [] (v := ?_) (a' := ?_) s_ rfl rfl (by kernel_rfl) (Or.inl ⟨by rfl, ?_⟩) ?_ ?_
  rotate_left
  · intro w' s0; go_simp; with_reducible rfl
  rotate_left
  · simp only [Act.put, List.setIfInBounds_toArray, List.set_cons_zero, List.set_cons_succ, i64_w, i32_w]; rfl
  refine hpure 1 (some 53) 2 [] (v := ?_) (a' := ?_) s_ rfl rfl (by kernel_rfl) (Or.inl ⟨by rfl, ?_⟩) ?_ ?_
  rotate_left
  · intro w' s0; go_simp; with_reducible rfl
  rotate_left
  · simp only [Act.put, List.setIfInBounds_toArray, List.set_cons_zero, List.set_cons_succ, i64_w, i32_w]; rfl
  refine hpure 2 (some 54) 3 [] (v := ?_) (a' := ?_) s_ rfl rfl (by kernel_rfl) (Or.inl ⟨by rfl, ?_⟩) ?_ ?_
  rotate_left
  · intro w' s0; go_simp; with_reducible rfl
  rotate_left
  · simp only [Act.put, List.setIfInBounds_toArray, List.set_cons_zero, List.set_cons_succ, i64_w, i32_w]; rfl
  refine hpure 3 (some 55) 4 [] (v := ?_) (a' := ?_) s_ rfl rfl (by kernel_rfl) (Or.inl ⟨by rfl, ?_⟩) ?_ ?_
  rotate_left
  · intro w' s0; have s1 := (HC4.out _ s0).1; go_simp; with_reducible rfl
  rotate_left
  · simp only [Act.put, List.setIfInBounds_toArray, List.set_cons_zero, List.set_cons_succ, i64_w, i32_w]; rfl
  refine hpure 4 (some 56) 5 [] (v := ?_) (a' := ?_) s_ rfl rfl (by kernel_rfl) (Or.inl ⟨by rfl, ?_⟩) ?_ ?_
  rotate_left
  · intro w' s0; go_simp; with_reducible rfl
  rotate_left
  · simp only [Act.put, List.setIfInBounds_toArray, List.set_cons_zero, List.set_cons_succ, i64_w, i32_w]; rfl
  refine hpure 5 (some 57) 6 [] (v := ?_) (a' := ?_) s_ rfl rfl (by kernel_rfl) (Or.inl ⟨by rfl, ?_⟩) ?_ ?_
  rotate_left
  · intro w' s0; go_simp; with_reducible rfl
  rotate_left
  · simp only [Act.put, List.setIfInBounds_toArray, List.set_cons_zero, List.set_cons_succ, i64_w, i32_w]; rfl
  refine hpure 6 (some 58) 7 [] (v := ?_) (a' := ?_) s_ rfl rfl (by kernel_rfl) (Or.inl ⟨by rfl, ?_⟩) ?_ ?_
  rotate_left
  · intro w' s0; go_simp; with_reducible rfl
  rotate_left
  · simp only [Act.put, List.setIfInBounds_toArray, List.set_cons_zero, List.set_cons_succ, i64_w, i32_w]; rfl
  refine hpure 7 (some 59) 8 [] (v := ?_) (a' := ?_) s_ rfl rfl (by kernel_rfl) (Or.inl ⟨by rfl, ?_⟩) ?_ ?_
  rotate_left
  · intro w' s0; have s1 := (HC4.out _ s0).2.1; go_simp; with_reducible rfl
  rotate_left
  · simp only [Act.put, List.setIfInBounds_toArray, List.set_cons_zero, List.set_cons_succ, i64_w, i32_w]; rfl
  refine hpure 8 (some 60) 9 [] (v := ?_) (a' := ?_) s_ rfl rfl (by kernel_rfl) (Or.inl ⟨by rfl, ?_⟩) ?_ ?_
  rotate_left
  · intro w' s0; go_simp; with_reducible rfl
  rotate_left
  · simp only [Act.put, List.setIfInBounds_toArray, List.set_cons_zero, List.set_cons_succ, i64_w, i32_w]; rfl
  refine hpure 9 (some 61) 10 [] (v := ?_) (a' := ?_) s_ rfl rfl (by kernel_rfl) (Or.inl ⟨by rfl, ?_⟩) ?_ ?_
  rotate_left
  · intro w' s0; go_simp; with_reducible rfl
  rotate_left
  · simp only [Act.put, List.setIfInBounds_toArray, List.set_cons_zero, List.set_cons_succ, i64_w, i32_w]; rfl
  refine hpure 10 (some 62) 11 [] (v := ?_) (a' := ?_) s_ rfl rfl (by kernel_rfl) (Or.inl ⟨by rfl, ?_⟩) ?_ ?_
  rotate_left
  · intro w' s0; go_simp; with_reducible rfl
  rotate_left
  · simp only [Act.put, List.setIfInBounds_toArray, List.set_cons_zero, List.set_cons_succ, i64_w, i32_w]; rfl
  refine hpure 11 (some 63) 12 [] (v := ?_) (a' := ?_) s_ rfl rfl (by kernel_rfl) (Or.inl ⟨by rfl, ?_⟩) ?_ ?_
  rotate_left
  · intro w' s0; go_simp; with_reducible rfl
  rotate_left
  · simp only [Act.put, List.setIfInBounds_toArray, List.set_cons_zero, List.set_cons_succ, i64_w, i32_w]; rfl
  refine hpure 12 (some 64) 13 [] (v := ?_) (a' := ?_) s_ rfl rfl (by kernel_rfl) (Or.inl ⟨by rfl, ?_⟩) ?_ ?_
  rotate_left
  · intro w' s0; have s1 := (HC4.out _ s0).1; go_simp; with_reducible rfl
  rotate_left
  · simp only [Act.put, List.setIfInBounds_toArray, List.set_cons_zero, List.set_cons_succ, i64_w, i32_w]; rfl
  refine hpure 13 (some 65) 14 [] (v := ?_) (a' := ?_) s_ rfl rfl (by kernel_rfl) (Or.inl ⟨by rfl, ?_⟩) ?_ ?_
  rotate_left
  · intro w' s0; go_simp; with_reducible rfl
  rotate_left
  · simp only [Act.put, List.setIfInBounds_toArray, List.set_cons_zero, List.set_cons_succ, i64_w, i32_w]; rfl
  refine hpure 14 (some 66) 15 [] (v := ?_) (a' := ?_) s_ rfl rfl (by kernel_rfl) (Or.inl ⟨by rfl, ?_⟩) ?_ ?_
  rotate_left
  · intro w' s0; go_simp; with_reducible rfl
  rotate_left
  · simp only [Act.put, List.setIfInBounds_toArray, List.set_cons_zero, List.set_cons_succ, i64_w, i32_w]; rfl
  refine hpure 15 (some 67) 16 [] (v := ?_) (a' := ?_) s_ rfl rfl (by kernel_rfl) (Or.inl ⟨by rfl, ?_⟩) ?_ ?_
  rotate_left
  · intro w' s0; go_simp; with_reducible rfl
  rotate_left
  · simp only [Act.put, List.setIfInBounds_toArray, List.set_cons_zero, List.set_cons_succ, i64_w, i32_w]; rfl
  refine hpure 16 (some 68) 17 [] (v := ?_) (a' := ?_) s_ rfl rfl (by kernel_rfl) (Or.inl ⟨by rfl, ?_⟩) ?_ ?_
  rotate_left
  · intro w' s0; have s1 := (HC4.out _ s0).2.1; go_simp; with_reducible rfl
  rotate_left
  · simp only [Act.put, List.setIfInBounds_toArray, List.set_cons_zero, List.set_cons_succ, i64_w, i32_w]; rfl
  refine hpure 17 (some 69) 18 [] (v := ?_) (a' := ?_) s_ rfl rfl (by kernel_rfl) (Or.inl ⟨by rfl, ?_⟩) ?_ ?_
  rotate_left
  · intro w' s0; go_simp; with_reducible rfl
  rotate_left
  · simp only [Act.put, List.setIfInBounds_toArray, List.set_cons_zero, List.set_cons_succ, i64_w, i32_w]; rfl
  refine hpure 18 (some 70) 19 [] (v := ?_) (a' := ?_) s_ rfl rfl (by kernel_rfl) (Or.inl ⟨by rfl, ?_⟩) ?_ ?_
  rotate_left
  · intro w' s0; go_simp; with_reducible rfl
  rotate_left
  · simp only [Act.put, List.setIfInBounds_toArray, List.set_cons_zero, List.set_cons_succ, i64_w, i32_w]; rfl
  refine hpure 19 (some 71) 20 [] (v := ?_) (a' := ?_) s_ rfl rfl (by kernel_rfl) (Or.inl ⟨by rfl, ?_⟩) ?_ ?_
  rotate_left
  · intro w' s0; have s1 := (HC4.out _ s0).2.2.1; go_simp; with_reducible rfl
  rotate_left
  · simp only [Act.put, List.setIfInBounds_toArray, List.set_cons_zero, List.set_cons_succ, i64_w, i32_w]; rfl
  refine hpure 20 (some 72) 21 [] (v := ?_) (a' := ?_) s_ rfl rfl (by kernel_rfl) (Or.inl ⟨by rfl, ?_⟩) ?_ ?_
  rotate_left
  · intro w' s0; go_simp; with_reducible rfl
  rotate_left
  · simp only [Act.put, List.setIfInBounds_toArray, List.set_cons_zero, List.set_cons_succ, i64_w, i32_w]; rfl
  refine hpure 21 (some 73) 22 [] (v := ?_) (a' := ?_) s_ rfl rfl (by kernel_rfl) (Or.inl ⟨by rfl, ?_⟩) ?_ ?_
  rotate_left
  · intro w' s0; go_simp; with_reducible rfl
  rotate_left
  · simp only [Act.put, List.setIfInBounds_toArray, List.set_cons_zero, List.set_cons_succ, i64_w, i32_w]; rfl
  refine hpure 22 (some 74) 23 [] (v := ?_) (a' := ?_) s_ rfl rfl (by kernel_rfl) (Or.inl ⟨by rfl, ?_⟩) ?_ ?_
  rotate_left
  · intro w' s0; go_simp; with_reducible rfl
  rotate_left
  · simp only [Act.put, List.setIfInBounds_toArray, List.set_cons_zero, List.set_cons_succ, i64_w, i32_w]; rfl
  refine hone 23 none 24 [] rfl rfl (by kernel_rfl) (fun K hK => ?_)
  have hcz := (HC4.out w_ s_).2.2.1
  have hfz := (HC4.out w_ s_).2.2.2
  refine skip_ (w1 := w_.setCell ⟨g2, m, none⟩ (.int .u8 (bits .xor .u8 (rd fs[i].bs (m : Int)) x))) ?hp4 ?aL4 ?hr4 ?_
  case hp4 => rfl
  case aL4 => rfl
  case hr4 => go_simp
  refine hK.out (fun _ => False) _ _ (fun _ h => h.elim) (fun hn => absurd (by decide) hn) ?_
  clear hK K
  clear hcz hfz
  refine hdone (by kernel_rfl) ?_
  have HE := Aside0.mk (turn_end HR2.out hil HS4.out H2.out.r HG4.out HW4.out s_ (m := m) (v := bits .xor .u8 (rd fs[i].bs (m : Int)) x))
  go_wp2
  go_ret
  exact ⟨rfl, _, _, HE.out.1, (RGoes.of_below _ HB2.out).trans HE.out.2 (fun x hx => .inl hx)⟩
end Go.Proofs.Ytoninmgglcepmaa.Dk

namespace Go.Proofs.Ytoninmgglcepmaa.Dk
open Go.ChangeMaps hiding rd
open RegD Reg Go.RowKit Go.Proofs.YtoninmgglcepmaaW.PrintWords Go.Proofs.YtoninmgglcepmaaW.PrintLast Go.Proofs.YtoninmgglcepmaaW.PrintMore Mp QDiskPlays
attribute [local go_sem] max2_int min2_int max_two min_two max_three min_three max_four min_four
set_option linter.unusedVariables false
set_option linter.unusedSimpArgs false
def appRE (r : RSt) (s : ByteArray) (n : Nat) : Int := if badName s = true then 20 else if 0 ≤ r.quota ∧ r.quota < (n : Int) then 13 else 0
def rQ (q : Int) (n : Nat) : Int := if 0 ≤ q then q - (n : Int) else q
def n85 : RF := ⟨none, 0, [], 0⟩
/-- What Append needs of the disk. -/
structure AppOkR (r : RSt) (n : Nat) : Prop where
  dir : r.dir.length ≤ 1000
  log : r.log.length ≤ 1000000
  fs : r.fs.length ≤ 1000000
  ok : ∀ e ∈ r.dir, ∃ j : Nat, e.f1 = (j : Int) ∧ j < r.fs.length
  sum : sumR r.fs r.dir + n ≤ 16777216
  q : r.quota ≤ 9223372036854775807
theorem bytesW {w : World} {r : RSt} {n : Nat} (h : RAt w r) (ho : AppOkR r n) : ∀ w1, Below w.heap.size w w1 → Calls Try.prog 46 #[.pointer (some ⟨r.gr, 0, none⟩)] w1 fun e w' => e = .returned (.int .i64 (sumR r.fs r.dir : Nat)) ∧ Below w1.heap.size w1 w' :=
  fun w1 hb => bytesR (h.below hb) (by have := ho.dir; omega) ho.ok (by have := ho.sum; omega)
set_option maxHeartbeats 8000000 in
set_option maxRecDepth 100000 in
theorem appRNo {w : World} {r : RSt} (h : RAt w r) (s : ByteArray) {Ab : Option Addr} {cb : Nat} {b : List Int} (ho : AppOkR r b.length) (hne : appRE r s b.length ≠ 0) :
    Calls Try.prog 26 #[.pointer (some ⟨r.gr, 0, none⟩), .string s, .slice Ab b.length cb] w fun e w' => e = .returned (.int .i64 (appRE r s b.length)) ∧ Below w.heap.size w w' := by
  obtain ⟨Ad, cd, ed⟩ := Kd.R_slice h.hi
  have HED := Aside0.mk ed
  have HR := Aside0.mk h
  have HO := Aside0.mk ho
  have hY := Lib.hid (bytesW h ho)
  unfold appRE at *
  cases hs : badName s with
  | true =>
    have hn := nameR s
    rw [hs] at hn
    rw [if_pos rfl]
    clear hs hne h ho ed hY
    go_enter Try.func26, Try.ntmps26
    go_wp2_with (go_at_call 44; refine (hn _).mono ?_; rintro e w1 ⟨rfl, hb⟩; have HB := Aside0.mk hb; clear hb)
    go_ret
    exact ⟨rfl, HB.out⟩
  | false =>
    have hn := nameR s
    rw [hs] at hn
    rw [hs, if_neg (by decide)] at hne
    rw [if_neg (by decide)]
    have hq : 0 ≤ r.quota ∧ r.quota < (b.length : Int) := Classical.byContradiction fun hc => hne (by rw [if_neg hc])
    rw [if_pos hq]
    have HF := Lib.hid (fun (w1 : World) (hb : Below w.heap.size w w1) => findRr (HED.out ▸ (HR.out.below hb).hi) s (by have := HO.out.dir; omega))
    have HC := Lib.hid (fun (w1 : World) (hb : Below w.heap.size w w1) => (show w1.cell? ⟨r.gr, 1, none⟩ = some (.slice Ad r.dir.length cd) from HED.out ▸ blk_cell (HR.out.below hb).hd 1))
    have HQ := Lib.hid (fun (w1 : World) (hb : Below w.heap.size w w1) => (show w1.cell? ⟨r.gr, 4, none⟩ = some (.int .i64 r.quota) from blk_cell (HR.out.below hb).hd 4))
    have HY := hY
    have bw : IntKind.i64.wrap (16777216 - ((sumR r.fs r.dir : Nat) : Int)) = 16777216 - ((sumR r.fs r.dir : Nat) : Int) := by have := ho.sum; rw [IntKind.wrap_i64]; omega
    have b3 : decide (16777216 - ((sumR r.fs r.dir : Nat) : Int) < (b.length : Int)) = false := decide_eq_false (by have := ho.sum; omega)
    have b4 : decide (0 ≤ r.quota) = true := decide_eq_true hq.1
    have b5 : decide (r.quota < (b.length : Int)) = true := decide_eq_true hq.2
    have b2 : decide ((4096 : Int) ≤ (r.dir.length : Int)) = false := decide_eq_false (by have := ho.dir; omega)
    have hk : decide (findI r.dir s < 0) = true ∨ decide (findI r.dir s < 0) = false := by cases decide (findI r.dir s < 0) <;> simp
    clear hs hne h ho ed hY hq
    generalize findI r.dir s = k at *
    generalize sumR r.fs r.dir = S at *
    rcases hk with b1 | b1
    all_goals
      go_enter Try.func26, Try.ntmps26
      go_wp2_with (first
    | (go_at_call 44; refine (hn _).mono ?_; clear hn; rintro e w1 ⟨rfl, hb⟩; have HB1 := Aside0.mk hb; have hc := HC.out w1 HB1.out; clear hb)
    | (go_at_call 45; refine (HF.out w1 HB1.out).mono ?_; rintro e w2 ⟨rfl, hb⟩; have HB2 := Aside0.mk (below_step HB1.out hb); have hc2 := HC.out w2 HB2.out; clear hb hc)
    | (go_at_call 46; refine (HY.out w2 HB2.out).mono ?_; rintro e w3 ⟨rfl, hb⟩; have HB3 := Aside0.mk (below_step HB2.out hb); have hc4 := HQ.out w3 HB3.out; clear hb hc2))
      go_ret
      exact ⟨rfl, HB3.out⟩
end Go.Proofs.Ytoninmgglcepmaa.Dk
