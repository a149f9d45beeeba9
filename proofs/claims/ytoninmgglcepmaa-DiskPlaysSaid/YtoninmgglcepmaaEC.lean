/- The document's Append: the walks. -/
import Derived.Test.YtoninmgglcepmaaEB
namespace Go.Proofs.Ytoninmgglcepmaa.Dk
open Go.ChangeMaps hiding rd
open RegD Reg Go.RowKit Go.Proofs.YtoninmgglcepmaaW.PrintWords Go.Proofs.YtoninmgglcepmaaW.PrintLast Go.Proofs.YtoninmgglcepmaaW.PrintMore Mp QDiskPlays
attribute [local go_sem] max2_int min2_int max_two min_two max_three min_three max_four min_four
set_option linter.unusedVariables false
set_option linter.unusedSimpArgs false
theorem quota_goes (w : World) (r : RSt) (q : Int) (v : Value) : RGoes w r (w.setCell ⟨r.gr, 4, none⟩ v) { r with quota := q } :=
  ⟨Kept.of_grown (grown_set (Below.refl w.heap.size w) r.gr 4 v) (Kept.refl w _) (fun k hk => by injection hk with hk; exact .inl (.inl hk.symm)), fun k hk => .inl hk, rfl⟩
set_option maxHeartbeats 8000000 in
set_option maxRecDepth 100000 in
theorem appROld {w : World} {r : RSt} (h : RAt w r) (s : ByteArray) {Ab : Option Addr} {cb : Nat} {b : List Int} (ho : AppOkR r b.length) (hA : ∀ w1, Kept w w1 (WF r) → Kd.C (Kd.int .u8) w1 Ab b.length b) (hbn : badName s = false) (hq : ¬ (0 ≤ r.quota ∧ r.quota < (b.length : Int))) {i : Nat} (hf : findI r.dir s = (i : Int)) (hil : i < r.fs.length) (hbl : r.fs[i].bs.length ≤ 1000000) :
    Calls Try.prog 26 #[.pointer (some ⟨r.gr, 0, none⟩), .string s, .slice Ab b.length cb] w fun e w' => e = .returned (.int .i64 0) ∧ ∃ A c, RAt w' { r with fs := r.fs.set i ⟨A, c, r.fs[i].bs ++ b, r.fs[i].safe⟩, quota := rQ r.quota b.length } ∧ RGoes w r w' { r with fs := r.fs.set i ⟨A, c, r.fs[i].bs ++ b, r.fs[i].safe⟩, quota := rQ r.quota b.length } := by
  obtain ⟨gr, vf, vd, vs, vl, fs, dir, safe, log, q⟩ := r
  obtain ⟨Ad, cd, ed⟩ := Kd.R_slice h.hi
  simp only at ed hf hil hbl hq
  subst ed
  obtain ⟨gf, cf, ef, _⟩ := h.file_cells hil
  simp only at ef
  subst ef
  have HR := Aside0.mk h
  have HA0 := Aside0.mk hA
  have HO := Aside0.mk ho
  have hn := nameR s
  rw [hbn] at hn
  have hod : dir.length ≤ 1000 := ho.dir
  have hos : sumR fs dir + b.length ≤ 16777216 := ho.sum
  have HAL : Aside0 (b.length ≤ 16777216) := ⟨by omega⟩
  have HF := Lib.hid (fun (w1 : World) (hb : Below w.heap.size w w1) => findRr (HR.out.below hb).hi s (by omega))
  have HC := Lib.hid (fun (w1 : World) (hb : Below w.heap.size w w1) => (show w1.cell? ⟨gr, 1, none⟩ = some (.slice Ad dir.length cd) from blk_cell (HR.out.below hb).hd 1))
  have HQ := Lib.hid (fun (w1 : World) (hb : Below w.heap.size w w1) => (show w1.cell? ⟨gr, 4, none⟩ = some (.int .i64 q) from blk_cell (HR.out.below hb).hd 4))
  have HY := Lib.hid (show ∀ w1, Below w.heap.size w w1 → Calls Try.prog 46 #[.pointer (some ⟨gr, 0, none⟩)] w1 fun e w' => e = .returned (.int .i64 (sumR fs dir : Nat)) ∧ Below w1.heap.size w1 w' from bytesW h ho)
  have bw : IntKind.i64.wrap (16777216 - ((sumR fs dir : Nat) : Int)) = 16777216 - ((sumR fs dir : Nat) : Int) := by rw [IntKind.wrap_i64]; omega
  have b3 : decide (16777216 - ((sumR fs dir : Nat) : Int) < (b.length : Int)) = false := decide_eq_false (by omega)
  have b2 : decide ((4096 : Int) ≤ (dir.length : Int)) = false := decide_eq_false (by omega)
  have HOQ : Aside0 (q ≤ 9223372036854775807) := ⟨ho.q⟩
  have HQQ : Aside0 ((decide (0 ≤ q) = true ∧ decide (q < (b.length : Int)) = false) ∨ decide (0 ≤ q) = false) := ⟨by
    by_cases h1 : 0 ≤ q
    · exact .inl ⟨decide_eq_true h1, decide_eq_false (fun h2 => hq ⟨h1, h2⟩)⟩
    · exact .inr (decide_eq_false h1)⟩
  simp only [hf] at HF
  have HBL := Aside0.mk hbl
  have b1 : decide ((i : Int) < 0) = false := decide_eq_false (by omega)
  have HQQ2 := HQQ
  clear h ho hod hos hf hbl hA hbn hq
  generalize sumR fs dir = S at *
  rcases HQQ2.out with ⟨bq1, bq2⟩ | bq1
  all_goals
    clear HQQ2
    go_enter Try.func26, Try.ntmps26
    go_upto_region 12 with (first
    | (go_at_call 44; refine (hn _).mono ?_; clear hn; rintro e w1 ⟨rfl, hb⟩; have HB1 := Aside0.mk hb; have hc := HC.out w1 HB1.out; clear hb)
    | (go_at_call 45; refine (HF.out w1 HB1.out).mono ?_; rintro e w2 ⟨rfl, hb⟩; have HB2 := Aside0.mk (below_step HB1.out hb); have hc2 := HC.out w2 HB2.out; clear hb hc)
    | (go_at_call 46; refine (HY.out w2 HB2.out).mono ?_; rintro e w3 ⟨rfl, hb⟩; have HB3 := Aside0.mk (below_step HB2.out hb); have hc4 := HQ.out w3 HB3.out; clear hb hc2))
    generalize hw5 : w3 = w5 at *
    have HR5 := Aside0.mk (HR.out.below HB3.out)
    have HA := Aside0.mk (fun (w1 : World) (hb : Below w5.heap.size w5 w1) => HA0.out w1 (Kept.of_below (below_step HB3.out hb) _))
    clear HR HA0 HC HQ HY HF hc4 hw5
    refine hstart (fun w' => Below w5.heap.size w5 w') [19] 20 (by kernel_rfl) rfl (by kernel_rfl) (below_drew (Below.refl _ _)) (fun w_ hw_ s_ => ?_)
    clear hw_
    refine hpure 0 (some 73) 1 [] (v := ?_) (a' := ?_) s_ rfl rfl (by kernel_rfl) (Or.inl ⟨by rfl, ?_⟩) ?_ ?_
    rotate_left
    · intro w' s0; go_simp; with_reducible rfl
    rotate_left
    · simp only [Act.put, List.setIfInBounds_toArray, List.set_cons_zero, List.set_cons_succ, i64_w, i32_w]; rfl
    refine hpure 1 (some 74) 2 [] (v := ?_) (a' := ?_) s_ rfl rfl (by kernel_rfl) (Or.inl ⟨by rfl, ?_⟩) ?_ ?_
    rotate_left
    · intro w' s0; go_simp; with_reducible rfl
    rotate_left
    · simp only [Act.put, List.setIfInBounds_toArray, List.set_cons_zero, List.set_cons_succ, i64_w, i32_w]; rfl
    refine hpure 2 (some 75) 3 [] (v := ?_) (a' := ?_) s_ rfl rfl (by kernel_rfl) (Or.inl ⟨by rfl, ?_⟩) ?_ ?_
    rotate_left
    · intro w' s0; go_simp; with_reducible rfl
    rotate_left
    · simp only [Act.put, List.setIfInBounds_toArray, List.set_cons_zero, List.set_cons_succ, i64_w, i32_w]; rfl
    refine hpure 3 (some 76) 4 [] (v := ?_) (a' := ?_) s_ rfl rfl (by kernel_rfl) (Or.inl ⟨by rfl, ?_⟩) ?_ ?_
    rotate_left
    · intro w' s0; have s1 : w'.cell? ⟨gr, 0, none⟩ = some (.slice (some ⟨gf, 0, none⟩) fs.length cf) := blk_cell (HR5.out.below s0).hd 0; go_simp; with_reducible rfl
    rotate_left
    · simp only [Act.put, List.setIfInBounds_toArray, List.set_cons_zero, List.set_cons_succ, i64_w, i32_w]; rfl
    refine hpure 4 (some 77) 5 [] (v := ?_) (a' := ?_) s_ rfl rfl (by kernel_rfl) (Or.inl ⟨by rfl, ?_⟩) ?_ ?_
    rotate_left
    · intro w' s0; go_simp; with_reducible rfl
    rotate_left
    · simp only [Act.put, List.setIfInBounds_toArray, List.set_cons_zero, List.set_cons_succ, i64_w, i32_w]; rfl
    refine hpure 6 (some 79) 5 [6] (v := ?_) (a' := ?_) s_ rfl rfl (by kernel_rfl) (Or.inl ⟨by rfl, ?_⟩) ?_ ?_
    rotate_left
    · intro w' s0; go_simp; with_reducible rfl
    rotate_left
    · simp only [Act.put, List.setIfInBounds_toArray, List.set_cons_zero, List.set_cons_succ, i64_w, i32_w]; rfl
    refine hpure 7 (some 80) 5 [6, 7] (v := ?_) (a' := ?_) s_ rfl rfl (by kernel_rfl) (Or.inl ⟨by rfl, ?_⟩) ?_ ?_
    rotate_left
    · intro w' s0; go_simp; with_reducible rfl
    rotate_left
    · simp only [Act.put, List.setIfInBounds_toArray, List.set_cons_zero, List.set_cons_succ, i64_w, i32_w]; rfl
    refine hpure 8 (some 81) 5 [6, 7, 8] (v := ?_) (a' := ?_) s_ rfl rfl (by kernel_rfl) (Or.inl ⟨by rfl, ?_⟩) ?_ ?_
    rotate_left
    · intro w' s0; go_simp; with_reducible rfl
    rotate_left
    · simp only [Act.put, List.setIfInBounds_toArray, List.set_cons_zero, List.set_cons_succ, i64_w, i32_w]; rfl
    refine hpure 9 (some 82) 5 [6, 7, 8, 9] (v := ?_) (a' := ?_) s_ rfl rfl (by kernel_rfl) (Or.inl ⟨by rfl, ?_⟩) ?_ ?_
    rotate_left
    · intro w' s0; have s1 : w'.cell? ⟨gr, 0, none⟩ = some (.slice (some ⟨gf, 0, none⟩) fs.length cf) := blk_cell (HR5.out.below s0).hd 0; go_simp; with_reducible rfl
    rotate_left
    · simp only [Act.put, List.setIfInBounds_toArray, List.set_cons_zero, List.set_cons_succ, i64_w, i32_w]; rfl
    refine hpure 10 (some 83) 5 [6, 7, 8, 9, 10] (v := ?_) (a' := ?_) s_ rfl rfl (by kernel_rfl) (Or.inl ⟨by rfl, ?_⟩) ?_ ?_
    rotate_left
    · intro w' s0; go_simp; with_reducible rfl
    rotate_left
    · simp only [Act.put, List.setIfInBounds_toArray, List.set_cons_zero, List.set_cons_succ, i64_w, i32_w]; rfl
    refine hpure 11 (some 84) 5 [6, 7, 8, 9, 10, 11] (v := ?_) (a' := ?_) s_ rfl rfl (by kernel_rfl) (Or.inl ⟨by rfl, ?_⟩) ?_ ?_
    rotate_left
    · intro w' s0; go_simp; with_reducible rfl
    rotate_left
    · simp only [Act.put, List.setIfInBounds_toArray, List.set_cons_zero, List.set_cons_succ, i64_w, i32_w]; rfl
    refine hpure 12 (some 85) 5 [6, 7, 8, 9, 10, 11, 12] (v := ?_) (a' := ?_) s_ rfl rfl (by kernel_rfl) (Or.inl ⟨by rfl, ?_⟩) ?_ ?_
    rotate_left
    · intro w' s0; go_simp; with_reducible rfl
    rotate_left
    · simp only [Act.put, List.setIfInBounds_toArray, List.set_cons_zero, List.set_cons_succ, i64_w, i32_w]; rfl
    refine hpure 13 (some 86) 5 [6, 7, 8, 9, 10, 11, 12, 13] (v := ?_) (a' := ?_) s_ rfl rfl (by kernel_rfl) (Or.inl ⟨by rfl, ?_⟩) ?_ ?_
    rotate_left
    · intro w' s0; have s1 : w'.cell? ⟨gf, i * 2, none⟩ = some (.slice fs[i].A fs[i].bs.length fs[i].c) := (file_at (HR5.out.below s0) hil).1; go_simp; with_reducible rfl
    rotate_left
    · simp only [Act.put, List.setIfInBounds_toArray, List.set_cons_zero, List.set_cons_succ, i64_w, i32_w]; rfl
    refine hpure 15 (some 88) 5 [6, 7, 8, 9, 10, 11, 12, 13, 15] (v := ?_) (a' := ?_) s_ rfl rfl (by kernel_rfl) (Or.inl ⟨by rfl, ?_⟩) ?_ ?_
    rotate_left
    · intro w' s0; go_simp; with_reducible rfl
    rotate_left
    · simp only [Act.put, List.setIfInBounds_toArray, List.set_cons_zero, List.set_cons_succ, i64_w, i32_w]; rfl
    refine hone 5 (some 78) 14 [15] rfl rfl (by kernel_rfl) (fun K hK => ?_)
    refine Kd.R_lit_step (Kd.int .u8) (w0 := w_) 0 5 (by rfl) (N := 78) rfl (xs := ([] : List Int)) (inner := []) (ok := fun _ => True) (okp := fun _ => True) ?hr1 ?hp1 (fun _ hk => hk) trivial (Below.refl 0 w_) (Nat.zero_le _) (by simp) ?_
    case hr1 => first | (go_simp; done) | (go_simp; rfl)
    case hp1 => exact (Reps.none _ _)
    intro v1 u1_1 ho_ hb_ hg_ hn_
    clear hb_
    have H1 := Aside0.mk (Fr.lit ho_ hn_ s_.size)
    have sb_ := below_none s_ hg_
    obtain ⟨A1, c1, e1⟩ := Kd.R_slice ho_
    subst e1
    refine hK.out (fun w' => Below w5.heap.size w5 w') _ _ (fun _ h => h) (fun _ => sb_) ?_
    clear hK K s_
    have s_ := sb_
    clear sb_ ho_ hg_ hn_
    simp only [Act.put, List.setIfInBounds_toArray, List.set_cons_zero, List.set_cons_succ, i64_w, i32_w]
    refine hone 14 (some 87) 16 [] rfl rfl (by kernel_rfl) (fun K hK => ?_)
    refine Kd.R_append_rows_step (Kd.int .u8) (w0 := u1_1) 0 (by rfl) (.tmp 78) (.tmp 86) 29 5 (.int .u8 0) 1 rfl Try.underlying29 info5 rfl (by decide) (by decide) (.slice A1 0 c1) ([] : List Int) fs[i].bs _ _ _ (fun _ => True) (fun _ => False) rfl rfl H1.out.r ((HR5.out.below s_).hb _ (List.getElem_mem hil)).1 (fun _ _ h => h) (fun _ h => h.elim) (fun _ _ => trivial) (Below.refl 0 u1_1) (Nat.zero_le _) ?aL2 ?_
    case aL2 => (have := HBL.out; show (0 + fs[i].bs.length) * 1 ≤ _; omega)
    intro v2 u2_2 ho_ hb_ hg_ hn_
    clear hb_
    have H2 := Aside0.mk (H1.out.appended ho_ hn_ s_.size)
    have sb_ := H1.out.below s_ hg_
    obtain ⟨A2, c2, e2⟩ := Kd.R_slice ho_
    subst e2
    clear H1
    refine hK.out (fun w' => Below w5.heap.size w5 w') _ _ (fun _ h => h) (fun _ => sb_) ?_
    clear hK K s_
    have s_ := sb_
    clear sb_ ho_ hg_ hn_
    simp only [Act.put, List.setIfInBounds_toArray, List.set_cons_zero, List.set_cons_succ, i64_w, i32_w]
    refine hone 16 (some 89) 17 [] rfl rfl (by kernel_rfl) (fun K hK => ?_)
    refine Kd.R_append_rows_step (Kd.int .u8) (w0 := u2_2) 0 (by rfl) (.tmp 87) (.tmp 88) 29 5 (.int .u8 0) 1 rfl Try.underlying29 info5 rfl (by decide) (by decide) (.slice A2 fs[i].bs.length c2) (fs[i].bs : List Int) b _ _ _ (fun _ => True) (fun _ => False) rfl rfl H2.out.r (HA.out u2_2 s_) (fun _ _ h => h) (fun _ h => h.elim) (fun _ _ => trivial) (Below.refl 0 u2_2) (Nat.zero_le _) ?aL3 ?_
    case aL3 => (have := HBL.out; have := HAL.out; show (fs[i].bs.length + b.length) * 1 ≤ _; omega)
    intro v3 u3_3 ho_ hb_ hg_ hn_
    clear hb_
    have H3 := Aside0.mk (H2.out.appended ho_ hn_ s_.size)
    have sb_ := H2.out.below s_ hg_
    obtain ⟨A3, c3, e3⟩ := Kd.R_slice ho_
    subst e3
    clear H2
    refine hK.out (fun w' => Below w5.heap.size w5 w') _ _ (fun _ h => h) (fun _ => sb_) ?_
    clear hK K s_
    have s_ := sb_
    clear sb_ ho_ hg_ hn_
    simp only [Act.put, List.setIfInBounds_toArray, List.set_cons_zero, List.set_cons_succ, i64_w, i32_w]
    refine hpure 17 (some 90) 18 [] (v := ?_) (a' := ?_) s_ rfl rfl (by kernel_rfl) (Or.inl ⟨by rfl, ?_⟩) ?_ ?_
    rotate_left
    · intro w' s0; go_simp; with_reducible rfl
    rotate_left
    · simp only [Act.put, List.setIfInBounds_toArray, List.set_cons_zero, List.set_cons_succ, i64_w, i32_w]; rfl
    refine hpure 18 (some 91) 19 [] (v := ?_) (a' := ?_) s_ rfl rfl (by kernel_rfl) (Or.inl ⟨by rfl, ?_⟩) ?_ ?_
    rotate_left
    · intro w' s0; go_simp; with_reducible rfl
    rotate_left
    · simp only [Act.put, List.setIfInBounds_toArray, List.set_cons_zero, List.set_cons_succ, i64_w, i32_w]; rfl
    refine hone 19 none 20 [] rfl rfl (by kernel_rfl) (fun K hK => ?_)
    have hcz : u3_3.cell? ⟨gf, i * 2, none⟩ = some (.slice fs[i].A fs[i].bs.length fs[i].c) := (file_at (HR5.out.below s_) hil).1
    have hfz : u3_3.frozen? ⟨gf, i * 2, none⟩ = false := (file_at (HR5.out.below s_) hil).2.2 _
    refine skip_ (w1 := u3_3.setCell ⟨gf, i * 2, none⟩ (.slice A3 (fs[i].bs ++ b).length c3)) ?hp4 ?aL4 ?hr4 ?_
    case hp4 => rfl
    case aL4 => rfl
    case hr4 => go_simp
    refine hK.out (fun _ => False) _ _ (fun _ h => h.elim) (fun hn => absurd (by decide) hn) ?_
    clear hK K
    clear hcz hfz
    refine hdone (by kernel_rfl) ?_
    replace H3 : Aside0 (Fr (Kd.int .u8) 5 w5.heap.size u3_3 (.slice A3 (fs[i].bs ++ b).length c3) (fs[i].bs ++ b)) := H3
    have HR6 : Aside0 (RAt (u3_3.setCell ⟨gf, i * 2, none⟩ (.slice A3 (fs[i].bs ++ b).length c3)) ⟨gr, .slice (some ⟨gf, 0, none⟩) fs.length cf, .slice Ad dir.length cd, vs, vl, fs.set i ⟨A3, c3, fs[i].bs ++ b, fs[i].safe⟩, dir, safe, log, q⟩) := ⟨(HR5.out.set_bytes hil (A := A3) (c := c3) (bs := fs[i].bs ++ b) rfl s_ ⟨(Kd.R_reads' H3.out.r).2.2, (Kd.R_reads' H3.out.r).2.1⟩ (fun _ ad hA => H3.out.b _ (by rw [show A3 = some ad from hA]; rfl)))⟩
    have HG6 : Aside0 (RGoes w5 ⟨gr, .slice (some ⟨gf, 0, none⟩) fs.length cf, .slice Ad dir.length cd, vs, vl, fs, dir, safe, log, q⟩ (u3_3.setCell ⟨gf, i * 2, none⟩ (.slice A3 (fs[i].bs ++ b).length c3)) ⟨gr, .slice (some ⟨gf, 0, none⟩) fs.length cf, .slice Ad dir.length cd, vs, vl, fs.set i ⟨A3, c3, fs[i].bs ++ b, fs[i].safe⟩, dir, safe, log, q⟩) := ⟨(bytes_goes (x := ⟨A3, c3, fs[i].bs ++ b, fs[i].safe⟩) (Kept.of_grown (grown_set (Below.refl _ _) gf (i * 2) _) (Kept.of_below s_ (fun k => k = gf)) (fun k hk => by injection hk with hk; exact .inl hk.symm)) (fun _ ad hA => H3.out.b _ (by rw [show A3 = some ad from hA]; rfl)))⟩
    generalize u3_3.setCell ⟨gf, i * 2, none⟩ (.slice A3 (fs[i].bs ++ b).length c3) = w6 at *
    have hz4 : w6.cell? ⟨gr, 4, none⟩ = some (.int .i64 q) := blk_cell HR6.out.hd 4
    have hf4 : w6.frozen? ⟨gr, 4, none⟩ = false := blk_frozen HR6.out.hd 4
    clear s_ H3
    first
    | (have bq3 : IntKind.i64.wrap (q - (b.length : Int)) = q - (b.length : Int) := by have := HOQ.out; have := HAL.out; have := of_decide_eq_true bq1; rw [IntKind.wrap_i64]; omega
       have hrq : rQ q b.length = q - (b.length : Int) := if_pos (of_decide_eq_true bq1)
       go_wp2
       go_ret
       refine ⟨rfl, ?_⟩
       simp only [hrq]
       exact ⟨_, _, HR6.out.put_quota _, ((RGoes.of_below _ HB3.out).trans HG6.out (fun x hx => .inl hx)).trans (quota_goes _ _ _ _) (fun x hx => .inl hx)⟩)
    | (have hrq : rQ q b.length = q := if_neg (of_decide_eq_false bq1)
       go_wp2
       go_ret
       refine ⟨rfl, ?_⟩
       simp only [hrq]
       exact ⟨_, _, HR6.out, (RGoes.of_below _ HB3.out).trans HG6.out (fun x hx => .inl hx)⟩)
end Go.Proofs.Ytoninmgglcepmaa.Dk

namespace Go.Proofs.Ytoninmgglcepmaa.Dk
open Go.ChangeMaps hiding rd
open RegD Reg Go.RowKit Go.Proofs.YtoninmgglcepmaaW.PrintWords Go.Proofs.YtoninmgglcepmaaW.PrintLast Go.Proofs.YtoninmgglcepmaaW.PrintMore Mp QDiskPlays
attribute [local go_sem] max2_int min2_int max_two min_two max_three min_three max_four min_four
set_option linter.unusedVariables false
set_option linter.unusedSimpArgs false
section
variable {w w1 : World} {gr cf c5 : Nat} {Af A5 : Option Addr} {vd vs vl : Value} {fs0 fs : List RF} {dir safe : List S91} {log : List S88} {q : Int}
  (h : RAt w ⟨gr, .slice Af fs0.length cf, vd, vs, vl, fs0, dir, safe, log, q⟩) (hfs : fs = fs0 ++ [n85]) (hb : Below w.heap.size w w1)
include hfs
theorem last_el {i : Nat} (hi : i = fs0.length) (h : i < fs.length) : fs[i] = n85 := by
  subst hi hfs
  simp
theorem set_last {i : Nat} (hi : i = fs0.length) (h : i < fs.length) (A : Option Addr) (c : Nat) (b : List Int) : fs.set i ⟨A, c, fs[i].bs ++ b, fs[i].safe⟩ = fs0 ++ [⟨A, c, b, 0⟩] := by
  rw [last_el hfs hi h]
  subst hi hfs
  simp [n85]
include h hb
theorem new_files (hr : kRF.R 85 w1 w.heap.size (fun _ => True) (.slice A5 fs.length c5) fs) : RAt (w1.setCell ⟨gr, 0, none⟩ (.slice A5 fs.length c5)) ⟨gr, .slice A5 fs.length c5, vd, vs, vl, fs, dir, safe, log, q⟩ := by
  have hold : ∀ f ∈ fs, f ∈ fs0 ∨ f = n85 := fun f hf => by rw [hfs] at hf; simpa using hf
  refine h.put_files hb (Kd.R_lower hr (Nat.zero_le _)) (fun f hf => ?_) (fun f hf hp ad hA => ?_)
  · rcases hold f hf with hf | rfl
    · exact (h.below hb).hb f hf
    · exact ⟨(Kd.R_reads' (Kd.R_nil (Kd.int .u8) 5 w1 0 (fun _ => True))).2.2, Nat.le_refl _⟩
  · rcases hold f hf with hf | rfl
    · exact ⟨(h.sep f hf hp ad hA).1, fun he => by
        have h1 := Kd.R_base hr _ he
        have h2 := h.foot (.inr (.inr (.inr (.inr (.inr ⟨f, hf, hp, ad, hA, rfl⟩)))))
        omega⟩
    · exact absurd hp (by decide)
omit h in
theorem new_goes (hv : ∀ k, (Value.slice A5 fs.length c5).ownBlock = some k → w.heap.size ≤ k) : RGoes w ⟨gr, .slice Af fs0.length cf, vd, vs, vl, fs0, dir, safe, log, q⟩ (w1.setCell ⟨gr, 0, none⟩ (.slice A5 fs.length c5)) ⟨gr, .slice A5 fs.length c5, vd, vs, vl, fs, dir, safe, log, q⟩ := by
  have hold : ∀ f ∈ fs, f ∈ fs0 ∨ f = n85 := fun f hf => by rw [hfs] at hf; simpa using hf
  refine ⟨Kept.of_grown (grown_set (Below.refl w1.heap.size w1) gr 0 _) (Kept.of_below hb _) (fun k hk => by injection hk with hk; exact .inl (.inl hk.symm)), fun k hk => ?_, rfl⟩
  rcases hk with hk | hk | hk | hk | hk | ⟨f, hf, hp, ad, hA, he⟩
  · exact .inl (.inl hk)
  · exact .inr (hv k hk)
  · exact .inl (.inr (.inr (.inl hk)))
  · exact .inl (.inr (.inr (.inr (.inl hk))))
  · exact .inl (.inr (.inr (.inr (.inr (.inl hk)))))
  · rcases hold f hf with hf | rfl
    · exact .inl (.inr (.inr (.inr (.inr (.inr ⟨f, hf, hp, ad, hA, he⟩)))))
    · exact absurd hp (by decide)
end
set_option maxHeartbeats 8000000 in
set_option maxRecDepth 100000 in
theorem appRNew {w : World} {r : RSt} (h : RAt w r) (s : ByteArray) {Ab : Option Addr} {cb : Nat} {b : List Int} (ho : AppOkR r b.length) (hA : ∀ w1, Kept w w1 (WF r) → Kd.C (Kd.int .u8) w1 Ab b.length b) (hbn : badName s = false) (hq : ¬ (0 ≤ r.quota ∧ r.quota < (b.length : Int))) (hf : findI r.dir s < 0) :
    Calls Try.prog 26 #[.pointer (some ⟨r.gr, 0, none⟩), .string s, .slice Ab b.length cb] w fun e w' => e = .returned (.int .i64 0) ∧ ∃ A c vf vd vl, RAt w' { r with vf := vf, fs := r.fs ++ [⟨A, c, b, 0⟩], vd := vd, dir := doL r.dir ⟨1, ByteArray.empty, s, (r.fs.length : Int)⟩, vl := vl, log := r.log ++ [⟨1, ByteArray.empty, s, (r.fs.length : Int)⟩], quota := rQ r.quota b.length } ∧ RGoes w r w' { r with vf := vf, fs := r.fs ++ [⟨A, c, b, 0⟩], vd := vd, dir := doL r.dir ⟨1, ByteArray.empty, s, (r.fs.length : Int)⟩, vl := vl, log := r.log ++ [⟨1, ByteArray.empty, s, (r.fs.length : Int)⟩], quota := rQ r.quota b.length } := by
  obtain ⟨gr, vf, vd, vs, vl, fs0, dir, safe, log, q⟩ := r
  obtain ⟨Ad, cd, ed⟩ := Kd.R_slice h.hi
  obtain ⟨Af, cf, ef⟩ := Kd.R_slice h.hf
  simp only at ed ef hf hq
  subst ed ef
  have HR := Aside0.mk h
  have HA0 := Aside0.mk hA
  have HO := Aside0.mk ho
  have hn := nameR s
  rw [hbn] at hn
  have hod : dir.length ≤ 1000 := ho.dir
  have hos : sumR fs0 dir + b.length ≤ 16777216 := ho.sum
  have HAL : Aside0 (b.length ≤ 16777216) := ⟨by omega⟩
  have HF := Lib.hid (fun (w1 : World) (hb : Below w.heap.size w w1) => findRr (HR.out.below hb).hi s (by omega))
  have HC := Lib.hid (fun (w1 : World) (hb : Below w.heap.size w w1) => (show w1.cell? ⟨gr, 1, none⟩ = some (.slice Ad dir.length cd) from blk_cell (HR.out.below hb).hd 1))
  have HQ := Lib.hid (fun (w1 : World) (hb : Below w.heap.size w w1) => (show w1.cell? ⟨gr, 4, none⟩ = some (.int .i64 q) from blk_cell (HR.out.below hb).hd 4))
  have HY := Lib.hid (show ∀ w1, Below w.heap.size w w1 → Calls Try.prog 46 #[.pointer (some ⟨gr, 0, none⟩)] w1 fun e w' => e = .returned (.int .i64 (sumR fs0 dir : Nat)) ∧ Below w1.heap.size w1 w' from bytesW h ho)
  have bw : IntKind.i64.wrap (16777216 - ((sumR fs0 dir : Nat) : Int)) = 16777216 - ((sumR fs0 dir : Nat) : Int) := by rw [IntKind.wrap_i64]; omega
  have b3 : decide (16777216 - ((sumR fs0 dir : Nat) : Int) < (b.length : Int)) = false := decide_eq_false (by omega)
  have b2 : decide ((4096 : Int) ≤ (dir.length : Int)) = false := decide_eq_false (by omega)
  have HOQ : Aside0 (q ≤ 9223372036854775807) := ⟨ho.q⟩
  have HQQ : Aside0 ((decide (0 ≤ q) = true ∧ decide (q < (b.length : Int)) = false) ∨ decide (0 ≤ q) = false) := ⟨by
    by_cases h1 : 0 ≤ q
    · exact .inl ⟨decide_eq_true h1, decide_eq_false (fun h2 => hq ⟨h1, h2⟩)⟩
    · exact .inr (decide_eq_false h1)⟩
  have HDL : Aside0 (dir.length ≤ 1000000) := ⟨by omega⟩
  have HLL : Aside0 (log.length ≤ 1000000) := ⟨ho.log⟩
  have HFL : Aside0 (fs0.length ≤ 1000000) := ⟨ho.fs⟩
  have b1 : decide (findI dir s < 0) = true := decide_eq_true hf
  obtain ⟨fs, hfs⟩ : ∃ l, l = fs0 ++ [n85] := ⟨_, rfl⟩
  have HFS := Aside0.mk hfs
  have HQQ2 := HQQ
  clear h ho hod hos hf hA hbn hq hfs
  generalize sumR fs0 dir = S at *
  generalize findI dir s = k at *
  rcases HQQ2.out with ⟨bq1, bq2⟩ | bq1
  all_goals
    clear HQQ2
    go_enter Try.func26, Try.ntmps26
    go_upto_region 12 with (first
    | (go_at_call 44; refine (hn _).mono ?_; clear hn; rintro e w1 ⟨rfl, hb⟩; have HB1 := Aside0.mk hb; have hc := HC.out w1 HB1.out; clear hb)
    | (go_at_call 45; refine (HF.out w1 HB1.out).mono ?_; rintro e w2 ⟨rfl, hb⟩; have HB2 := Aside0.mk (below_step HB1.out hb); have hc2 := HC.out w2 HB2.out; clear hb hc)
    | (go_at_call 46; refine (HY.out w2 HB2.out).mono ?_; rintro e w3 ⟨rfl, hb⟩; have HB3 := Aside0.mk (below_step HB2.out hb); have hc4 := HQ.out w3 HB3.out; have hz0 : w3.cell? ⟨gr, 0, none⟩ = some (.slice Af fs0.length cf) := blk_cell (HR.out.below HB3.out).hd 0; clear hb hc2)
    | ((with_reducible refine gate_dst (N := 57) rfl ?_); refine Kd.R_lit kRF (w0 := w) w.heap.size 85 ?hg (N := 57) ?hd (xs := ([] : List RF)) (inner := []) (ok := fun _ => True) (okp := fun _ => True) ?hr ?hp (fun _ hk => hk) trivial HB3.out HB3.out.size (by simp) ?_; (case hd => rfl); (case hg => rfl); (case hr => first | (go_simp; done) | (go_simp; rfl)); (case hp => exact (Reps.none _ _)); intro v1 w4 ho_ hb_ hg_ hn_; clear hg_ hn_; have HO1 := Aside0.mk ho_; have HO1b := Aside0.mk hb_; have hz1 : w4.cell? ⟨gr, 0, none⟩ = some (.slice Af fs0.length cf) := blk_cell (HR.out.below hb_).hd 0; clear ho_ hb_ hz0)
    | ((with_reducible refine gate_builtin (b := .append) (xs := #[.tmp 57, .tmp 61]) rfl ?_); at_builtin; refine Kd.R_append_rows kRF (w0 := w) w.heap.size rfl (.tmp 57) (.tmp 61) 76 85 (.agg #[(.slice none 0 0), (.int .i64 0)]) 32 rfl Try.underlying76 info85 rfl (by decide) (by decide) v1 ([] : List RF) fs0 _ _ _ (fun _ => True) (fun _ => False) rfl rfl HO1.out (Kd.R_reads' (HR.out.below HO1b.out).hf).2.2 (fun x cs h => by rw [kRF_open h]; exact kRF_mkM _ _ _ x) (fun _ h => h.elim) (fun _ _ => trivial) HO1b.out HO1b.out.size (by have := HFL.out; show (0 + fs0.length) * 32 ≤ _; omega) ?_; intro v2 w5 ho_ hb_ hg_ hn_; clear hg_ hn_; obtain ⟨Av2, cv2, ev2⟩ := Kd.R_slice ho_; subst ev2; have HO2 := Aside0.mk ho_; have HO2b := Aside0.mk hb_; replace ho_ : kRF.R 85 w5 w.heap.size (fun _ => True) (.slice Av2 fs0.length cv2) fs0 := ho_; replace HO2 := Aside0.mk ho_; clear ho_ hb_ hz1)
    | ((with_reducible refine gate_builtin (b := .append) (xs := #[.tmp 62, .tmp 64]) rfl ?_); at_builtin; refine Kd.R_append kRF w.heap.size rfl (.tmp 62) (.tmp 64) 76 85 (.agg #[(.slice none 0 0), (.int .i64 0)]) 32 rfl Try.underlying76 info85 rfl (by decide) (by decide) (.slice Av2 fs0.length cv2) fs0 n85 [.slice none 0 0, .int .i64 0] (fun _ => True) (fun _ => False) rfl rfl (kRF_mkM _ _ _ n85) (fun _ hk => hk.elim) (fun _ _ => trivial) HO2.out HO2b.out HO2b.out.size ?aL ?_; (case aL => have := HFL.out; omega); intro v5 w6 ho_ hb_ hg_ hn_; clear hg_ hn_; rw [← HFS.out] at ho_; obtain ⟨A5, c5, e5⟩ := Kd.R_slice ho_; subst e5; have HO3 := Aside0.mk ho_; have HB6 := Aside0.mk hb_; have hz2 : w6.cell? ⟨gr, 0, none⟩ = some (.slice Af fs0.length cf) := blk_cell (HR.out.below hb_).hd 0; have hf2 : w6.frozen? ⟨gr, 0, none⟩ = false := blk_frozen (HR.out.below hb_).hd 0; have HZ1 : Aside0 (RAt (w6.setCell ⟨gr, 0, none⟩ (.slice A5 fs.length c5)) ⟨gr, .slice A5 fs.length c5, .slice Ad dir.length cd, vs, vl, fs, dir, safe, log, q⟩) := ⟨new_files HR.out HFS.out hb_ ho_⟩; have HG1 : Aside0 (RGoes w ⟨gr, .slice Af fs0.length cf, .slice Ad dir.length cd, vs, vl, fs0, dir, safe, log, q⟩ (w6.setCell ⟨gr, 0, none⟩ (.slice A5 fs.length c5)) ⟨gr, .slice A5 fs.length c5, .slice Ad dir.length cd, vs, vl, fs, dir, safe, log, q⟩) := ⟨new_goes HFS.out hb_ (Kd.R_base ho_)⟩; clear ho_ hb_)
    | (go_at_call 47; refine (didC HZ1.out ⟨1, ByteArray.empty, s, (fs0.length : Int)⟩ HDL.out HLL.out).mono ?_; rintro e w7 ⟨rfl, v1, v2, hR, hG⟩; have HR5 := Aside0.mk hR; have HG5 := Aside0.mk hG; clear hR hG))
    have HGA := Aside0.mk (HG1.out.trans HG5.out (fun x hx => hx.elim (fun hx => .inl (.inl hx)) (fun hx => .inr (Kd.R_base HO3.out x hx))))
    have HA := Aside0.mk (fun (w1 : World) (hb : Below w7.heap.size w7 w1) => HA0.out w1 (HGA.out.kept.below hb))
    generalize hw5 : w7 = w5 at *
    obtain ⟨gf, cf5, e5, -⟩ := HR5.out.file_cells (i := fs0.length) (by rw [HFS.out]; simp)
    injection e5 with e5
    subst e5
    obtain ⟨i, hi⟩ : ∃ i, i = fs0.length := ⟨_, rfl⟩
    rw [← hi]
    have hil : i < fs.length := by rw [hi, HFS.out]; simp
    have HSET := Aside0.mk (fun (A : Option Addr) (c : Nat) => set_last HFS.out hi hil A c b)
    have HBL : Aside0 (fs[i].bs.length ≤ 1000000) := ⟨by rw [last_el HFS.out hi hil]; decide⟩
    clear HR HA0 HC HQ HY HF hc4 hw5 HZ1 HG1 HG5 HO1 HO1b HO2 HO2b hi
    refine hstart (fun w' => Below w5.heap.size w5 w') [19] 20 (by kernel_rfl) rfl (by kernel_rfl) (below_drew (Below.refl _ _)) (fun w_ hw_ s_ => ?_)
    clear hw_
    refine hpure 0 (some 73) 1 [] (v := ?_) (a' := ?_) s_ rfl rfl (by kernel_rfl) (Or.inl ⟨by rfl, ?_⟩) ?_ ?_
    rotate_left
    · intro w' s0; go_simp; with_reducible rfl
    rotate_left
    · simp only [Act.put, List.setIfInBounds_toArray, List.set_cons_zero, List.set_cons_succ, i64_w, i32_w]; rfl
    refine hpure 1 (some 74) 2 [] (v := ?_) (a' := ?_) s_ rfl rfl (by kernel_rfl) (Or.inl ⟨by rfl, ?_⟩) ?_ ?_
    rotate_left
    · intro w' s0; go_simp; with_reducible rfl
    rotate_left
    · simp only [Act.put, List.setIfInBounds_toArray, List.set_cons_zero, List.set_cons_succ, i64_w, i32_w]; rfl
    refine hpure 2 (some 75) 3 [] (v := ?_) (a' := ?_) s_ rfl rfl (by kernel_rfl) (Or.inl ⟨by rfl, ?_⟩) ?_ ?_
    rotate_left
    · intro w' s0; go_simp; with_reducible rfl
    rotate_left
    · simp only [Act.put, List.setIfInBounds_toArray, List.set_cons_zero, List.set_cons_succ, i64_w, i32_w]; rfl
    refine hpure 3 (some 76) 4 [] (v := ?_) (a' := ?_) s_ rfl rfl (by kernel_rfl) (Or.inl ⟨by rfl, ?_⟩) ?_ ?_
    rotate_left
    · intro w' s0; have s1 : w'.cell? ⟨gr, 0, none⟩ = some (.slice (some ⟨gf, 0, none⟩) fs.length c5) := blk_cell (HR5.out.below s0).hd 0; go_simp; with_reducible rfl
    rotate_left
    · simp only [Act.put, List.setIfInBounds_toArray, List.set_cons_zero, List.set_cons_succ, i64_w, i32_w]; rfl
    refine hpure 4 (some 77) 5 [] (v := ?_) (a' := ?_) s_ rfl rfl (by kernel_rfl) (Or.inl ⟨by rfl, ?_⟩) ?_ ?_
    rotate_left
    · intro w' s0; go_simp; with_reducible rfl
    rotate_left
    · simp only [Act.put, List.setIfInBounds_toArray, List.set_cons_zero, List.set_cons_succ, i64_w, i32_w]; rfl
    refine hpure 6 (some 79) 5 [6] (v := ?_) (a' := ?_) s_ rfl rfl (by kernel_rfl) (Or.inl ⟨by rfl, ?_⟩) ?_ ?_
    rotate_left
    · intro w' s0; go_simp; with_reducible rfl
    rotate_left
    · simp only [Act.put, List.setIfInBounds_toArray, List.set_cons_zero, List.set_cons_succ, i64_w, i32_w]; rfl
    refine hpure 7 (some 80) 5 [6, 7] (v := ?_) (a' := ?_) s_ rfl rfl (by kernel_rfl) (Or.inl ⟨by rfl, ?_⟩) ?_ ?_
    rotate_left
    · intro w' s0; go_simp; with_reducible rfl
    rotate_left
    · simp only [Act.put, List.setIfInBounds_toArray, List.set_cons_zero, List.set_cons_succ, i64_w, i32_w]; rfl
    refine hpure 8 (some 81) 5 [6, 7, 8] (v := ?_) (a' := ?_) s_ rfl rfl (by kernel_rfl) (Or.inl ⟨by rfl, ?_⟩) ?_ ?_
    rotate_left
    · intro w' s0; go_simp; with_reducible rfl
    rotate_left
    · simp only [Act.put, List.setIfInBounds_toArray, List.set_cons_zero, List.set_cons_succ, i64_w, i32_w]; rfl
    refine hpure 9 (some 82) 5 [6, 7, 8, 9] (v := ?_) (a' := ?_) s_ rfl rfl (by kernel_rfl) (Or.inl ⟨by rfl, ?_⟩) ?_ ?_
    rotate_left
    · intro w' s0; have s1 : w'.cell? ⟨gr, 0, none⟩ = some (.slice (some ⟨gf, 0, none⟩) fs.length c5) := blk_cell (HR5.out.below s0).hd 0; go_simp; with_reducible rfl
    rotate_left
    · simp only [Act.put, List.setIfInBounds_toArray, List.set_cons_zero, List.set_cons_succ, i64_w, i32_w]; rfl
    refine hpure 10 (some 83) 5 [6, 7, 8, 9, 10] (v := ?_) (a' := ?_) s_ rfl rfl (by kernel_rfl) (Or.inl ⟨by rfl, ?_⟩) ?_ ?_
    rotate_left
    · intro w' s0; go_simp; with_reducible rfl
    rotate_left
    · simp only [Act.put, List.setIfInBounds_toArray, List.set_cons_zero, List.set_cons_succ, i64_w, i32_w]; rfl
    refine hpure 11 (some 84) 5 [6, 7, 8, 9, 10, 11] (v := ?_) (a' := ?_) s_ rfl rfl (by kernel_rfl) (Or.inl ⟨by rfl, ?_⟩) ?_ ?_
    rotate_left
    · intro w' s0; go_simp; with_reducible rfl
    rotate_left
    · simp only [Act.put, List.setIfInBounds_toArray, List.set_cons_zero, List.set_cons_succ, i64_w, i32_w]; rfl
    refine hpure 12 (some 85) 5 [6, 7, 8, 9, 10, 11, 12] (v := ?_) (a' := ?_) s_ rfl rfl (by kernel_rfl) (Or.inl ⟨by rfl, ?_⟩) ?_ ?_
    rotate_left
    · intro w' s0; go_simp; with_reducible rfl
    rotate_left
    · simp only [Act.put, List.setIfInBounds_toArray, List.set_cons_zero, List.set_cons_succ, i64_w, i32_w]; rfl
    refine hpure 13 (some 86) 5 [6, 7, 8, 9, 10, 11, 12, 13] (v := ?_) (a' := ?_) s_ rfl rfl (by kernel_rfl) (Or.inl ⟨by rfl, ?_⟩) ?_ ?_
    rotate_left
    · intro w' s0; have s1 : w'.cell? ⟨gf, i * 2, none⟩ = some (.slice fs[i].A fs[i].bs.length fs[i].c) := (file_at (HR5.out.below s0) hil).1; go_simp; with_reducible rfl
    rotate_left
    · simp only [Act.put, List.setIfInBounds_toArray, List.set_cons_zero, List.set_cons_succ, i64_w, i32_w]; rfl
    refine hpure 15 (some 88) 5 [6, 7, 8, 9, 10, 11, 12, 13, 15] (v := ?_) (a' := ?_) s_ rfl rfl (by kernel_rfl) (Or.inl ⟨by rfl, ?_⟩) ?_ ?_
    rotate_left
    · intro w' s0; go_simp; with_reducible rfl
    rotate_left
    · simp only [Act.put, List.setIfInBounds_toArray, List.set_cons_zero, List.set_cons_succ, i64_w, i32_w]; rfl
    refine hone 5 (some 78) 14 [15] rfl rfl (by kernel_rfl) (fun K hK => ?_)
    refine Kd.R_lit_step (Kd.int .u8) (w0 := w_) 0 5 (by rfl) (N := 78) rfl (xs := ([] : List Int)) (inner := []) (ok := fun _ => True) (okp := fun _ => True) ?hr5 ?hp5 (fun _ hk => hk) trivial (Below.refl 0 w_) (Nat.zero_le _) (by simp) ?_
    case hr5 => first | (go_simp; done) | (go_simp; rfl)
    case hp5 => exact (Reps.none _ _)
    intro v1 u1_1 ho_ hb_ hg_ hn_
    clear hb_
    have H1 := Aside0.mk (Fr.lit ho_ hn_ s_.size)
    have sb_ := below_none s_ hg_
    obtain ⟨A1, c1, e1⟩ := Kd.R_slice ho_
    subst e1
    refine hK.out (fun w' => Below w5.heap.size w5 w') _ _ (fun _ h => h) (fun _ => sb_) ?_
    clear hK K s_
    have s_ := sb_
    clear sb_ ho_ hg_ hn_
    simp only [Act.put, List.setIfInBounds_toArray, List.set_cons_zero, List.set_cons_succ, i64_w, i32_w]
    refine hone 14 (some 87) 16 [] rfl rfl (by kernel_rfl) (fun K hK => ?_)
    refine Kd.R_append_rows_step (Kd.int .u8) (w0 := u1_1) 0 (by rfl) (.tmp 78) (.tmp 86) 29 5 (.int .u8 0) 1 rfl Try.underlying29 info5 rfl (by decide) (by decide) (.slice A1 0 c1) ([] : List Int) fs[i].bs _ _ _ (fun _ => True) (fun _ => False) rfl rfl H1.out.r ((HR5.out.below s_).hb _ (List.getElem_mem hil)).1 (fun _ _ h => h) (fun _ h => h.elim) (fun _ _ => trivial) (Below.refl 0 u1_1) (Nat.zero_le _) ?aL6 ?_
    case aL6 => (have := HBL.out; show (0 + fs[i].bs.length) * 1 ≤ _; omega)
    intro v2 u2_2 ho_ hb_ hg_ hn_
    clear hb_
    have H2 := Aside0.mk (H1.out.appended ho_ hn_ s_.size)
    have sb_ := H1.out.below s_ hg_
    obtain ⟨A2, c2, e2⟩ := Kd.R_slice ho_
    subst e2
    clear H1
    refine hK.out (fun w' => Below w5.heap.size w5 w') _ _ (fun _ h => h) (fun _ => sb_) ?_
    clear hK K s_
    have s_ := sb_
    clear sb_ ho_ hg_ hn_
    simp only [Act.put, List.setIfInBounds_toArray, List.set_cons_zero, List.set_cons_succ, i64_w, i32_w]
    refine hone 16 (some 89) 17 [] rfl rfl (by kernel_rfl) (fun K hK => ?_)
    refine Kd.R_append_rows_step (Kd.int .u8) (w0 := u2_2) 0 (by rfl) (.tmp 87) (.tmp 88) 29 5 (.int .u8 0) 1 rfl Try.underlying29 info5 rfl (by decide) (by decide) (.slice A2 fs[i].bs.length c2) (fs[i].bs : List Int) b _ _ _ (fun _ => True) (fun _ => False) rfl rfl H2.out.r (HA.out u2_2 s_) (fun _ _ h => h) (fun _ h => h.elim) (fun _ _ => trivial) (Below.refl 0 u2_2) (Nat.zero_le _) ?aL7 ?_
    case aL7 => (have := HBL.out; have := HAL.out; show (fs[i].bs.length + b.length) * 1 ≤ _; omega)
    intro v3 u3_3 ho_ hb_ hg_ hn_
    clear hb_
    have H3 := Aside0.mk (H2.out.appended ho_ hn_ s_.size)
    have sb_ := H2.out.below s_ hg_
    obtain ⟨A3, c3, e3⟩ := Kd.R_slice ho_
    subst e3
    clear H2
    refine hK.out (fun w' => Below w5.heap.size w5 w') _ _ (fun _ h => h) (fun _ => sb_) ?_
    clear hK K s_
    have s_ := sb_
    clear sb_ ho_ hg_ hn_
    simp only [Act.put, List.setIfInBounds_toArray, List.set_cons_zero, List.set_cons_succ, i64_w, i32_w]
    refine hpure 17 (some 90) 18 [] (v := ?_) (a' := ?_) s_ rfl rfl (by kernel_rfl) (Or.inl ⟨by rfl, ?_⟩) ?_ ?_
    rotate_left
    · intro w' s0; go_simp; with_reducible rfl
    rotate_left
    · simp only [Act.put, List.setIfInBounds_toArray, List.set_cons_zero, List.set_cons_succ, i64_w, i32_w]; rfl
    refine hpure 18 (some 91) 19 [] (v := ?_) (a' := ?_) s_ rfl rfl (by kernel_rfl) (Or.inl ⟨by rfl, ?_⟩) ?_ ?_
    rotate_left
    · intro w' s0; go_simp; with_reducible rfl
    rotate_left
    · simp only [Act.put, List.setIfInBounds_toArray, List.set_cons_zero, List.set_cons_succ, i64_w, i32_w]; rfl
    refine hone 19 none 20 [] rfl rfl (by kernel_rfl) (fun K hK => ?_)
    have hcz : u3_3.cell? ⟨gf, i * 2, none⟩ = some (.slice fs[i].A fs[i].bs.length fs[i].c) := (file_at (HR5.out.below s_) hil).1
    have hfz : u3_3.frozen? ⟨gf, i * 2, none⟩ = false := (file_at (HR5.out.below s_) hil).2.2 _
    refine skip_ (w1 := u3_3.setCell ⟨gf, i * 2, none⟩ (.slice A3 (fs[i].bs ++ b).length c3)) ?hp8 ?aL8 ?hr8 ?_
    case hp8 => rfl
    case aL8 => rfl
    case hr8 => go_simp
    refine hK.out (fun _ => False) _ _ (fun _ h => h.elim) (fun hn => absurd (by decide) hn) ?_
    clear hK K
    clear hcz hfz
    refine hdone (by kernel_rfl) ?_
    replace H3 : Aside0 (Fr (Kd.int .u8) 5 w5.heap.size u3_3 (.slice A3 (fs[i].bs ++ b).length c3) (fs[i].bs ++ b)) := H3
    have HR6 : Aside0 (RAt (u3_3.setCell ⟨gf, i * 2, none⟩ (.slice A3 (fs[i].bs ++ b).length c3)) ⟨gr, .slice (some ⟨gf, 0, none⟩) fs.length c5, v1, vs, v2, fs.set i ⟨A3, c3, fs[i].bs ++ b, fs[i].safe⟩, doL dir ⟨1, ByteArray.empty, s, (fs0.length : Int)⟩, safe, log ++ [⟨1, ByteArray.empty, s, (fs0.length : Int)⟩], q⟩) := ⟨(HR5.out.set_bytes hil (A := A3) (c := c3) (bs := fs[i].bs ++ b) rfl s_ ⟨(Kd.R_reads' H3.out.r).2.2, (Kd.R_reads' H3.out.r).2.1⟩ (fun _ ad hA => H3.out.b _ (by rw [show A3 = some ad from hA]; rfl)))⟩
    have HG6 : Aside0 (RGoes w5 ⟨gr, .slice (some ⟨gf, 0, none⟩) fs.length c5, v1, vs, v2, fs, doL dir ⟨1, ByteArray.empty, s, (fs0.length : Int)⟩, safe, log ++ [⟨1, ByteArray.empty, s, (fs0.length : Int)⟩], q⟩ (u3_3.setCell ⟨gf, i * 2, none⟩ (.slice A3 (fs[i].bs ++ b).length c3)) ⟨gr, .slice (some ⟨gf, 0, none⟩) fs.length c5, v1, vs, v2, fs.set i ⟨A3, c3, fs[i].bs ++ b, fs[i].safe⟩, doL dir ⟨1, ByteArray.empty, s, (fs0.length : Int)⟩, safe, log ++ [⟨1, ByteArray.empty, s, (fs0.length : Int)⟩], q⟩) := ⟨(bytes_goes (x := ⟨A3, c3, fs[i].bs ++ b, fs[i].safe⟩) (Kept.of_grown (grown_set (Below.refl _ _) gf (i * 2) _) (Kept.of_below s_ (fun k => k = gf)) (fun k hk => by injection hk with hk; exact .inl hk.symm)) (fun _ ad hA => H3.out.b _ (by rw [show A3 = some ad from hA]; rfl)))⟩
    generalize u3_3.setCell ⟨gf, i * 2, none⟩ (.slice A3 (fs[i].bs ++ b).length c3) = w6 at *
    have hz4 : w6.cell? ⟨gr, 4, none⟩ = some (.int .i64 q) := blk_cell HR6.out.hd 4
    have hf4 : w6.frozen? ⟨gr, 4, none⟩ = false := blk_frozen HR6.out.hd 4
    clear s_ H3
    rw [HSET.out] at HR6 HG6
    first
    | (have hrq : rQ q b.length = q := if_neg (of_decide_eq_false bq1)
       go_wp2
       go_ret
       refine ⟨rfl, ?_⟩
       try simp only [hrq]
       exact ⟨_, _, _, _, _, HR6.out, (HGA.out.trans HG6.out (fun x hx => hx.elim (fun hx => .inl (.inl hx)) (fun hx => .inr (Kd.R_base HO3.out x hx))))⟩)
    | (have bq3 : IntKind.i64.wrap (q - (b.length : Int)) = q - (b.length : Int) := by have := HOQ.out; have := HAL.out; have := of_decide_eq_true bq1; rw [IntKind.wrap_i64]; omega
       have hrq : rQ q b.length = q - (b.length : Int) := if_pos (of_decide_eq_true bq1)
       go_wp2
       go_ret
       refine ⟨rfl, ?_⟩
       try simp only [hrq]
       exact ⟨_, _, _, _, _, HR6.out.put_quota _, (HGA.out.trans HG6.out (fun x hx => hx.elim (fun hx => .inl (.inl hx)) (fun hx => .inr (Kd.R_base HO3.out x hx)))).trans (quota_goes _ _ _ _) (fun x hx => hx.elim (fun hx => .inl (.inl hx)) (fun hx => .inr (Kd.R_base HO3.out x hx)))⟩)
end Go.Proofs.Ytoninmgglcepmaa.Dk
