/- Files read, made safe; the directory made safe: the walks. -/
import Derived.Test.YtoninmgglcepmaaD6
import Derived.WalkSpells
import Derived.Shelf.SlMaps.Clone
namespace Go.Proofs.Ytoninmgglcepmaa.Dk
open RegD Go.RowKit Go.ChangeMaps Go.Proofs.YtoninmgglcepmaaW.PrintWords Go.Proofs.YtoninmgglcepmaaW.PrintLast Go.Proofs.YtoninmgglcepmaaW.PrintMore Mp
attribute [local go_sem] max2_int min2_int max_two min_two max_three min_three max_four min_four
set_option linter.unusedVariables false
set_option linter.unusedSimpArgs false
/-! slices.Clone at []byte: by hand -/
def slices_Clone_byte_byte.f (l0 : List Int) : Option (List Int) := if l0.length < 140737488355328 then (some l0) else none
set_option maxHeartbeats 8000000 in
set_option maxRecDepth 100000 in
theorem slices_Clone_byte_byte.calls (A0 : Option Addr) (c0 : Nat) (l0 : List Int) (r : List Int) (w : World) (hr0 : Kd.C (Kd.int .u8) w A0 l0.length l0) (hc0 : l0.length ≤ c0) (h : slices_Clone_byte_byte.f l0 = some r) :
    Calls Try.prog 39 #[.slice A0 l0.length c0] w fun e w' => ∃ v0_ : Value, e = .returned (v0_) ∧ Kd.R (Kd.int .u8) 5 w' w.heap.size (fun _ => True) v0_ r ∧ Below w.heap.size w w' := by
  unfold slices_Clone_byte_byte.f at h
  by_cases hl : l0.length < 140737488355328
  · rw [if_pos hl] at h
    obtain rfl := Option.some.inj h
    have HR0 := Aside0.mk hr0
    have HC0 := Aside0.mk hc0
    have HL0 := Aside0.mk hl
    have HB := Aside0.mk (Below.refl w.heap.size w)
    clear hc0 hl h
    cases A0 with
    | none =>
      have h0 : l0 = [] := by
        rcases Nat.eq_zero_or_pos l0.length with h0 | h0
        · exact List.eq_nil_of_length_eq_zero h0
        · obtain ⟨ad, e, _⟩ := hr0.2.2 h0
          cases e
      subst h0
      clear hr0
      have hq := Lib.run_eql_slice_nil (P := Try.prog)
      go_enter Try.func39, Try.ntmps39
      go_wp2
      go_ret
      exact ⟨_, rfl, Kd.R_nil _ _ _ _ _, HB.out⟩
    | some ad =>
      clear hr0
      have hq := Lib.run_eql_slice_nil (P := Try.prog)
      go_enter Try.func39, Try.ntmps39
      go_wp2_with (first | ((with_reducible refine gate_dst (N := 5) rfl ?_); refine Kd.R_lit (Kd.int .u8) _ 5 ?hg (N := 5) ?hd (xs := ([] : List Int)) (inner := []) (ok := fun _ => True) (okp := fun _ => True) ?hr ?hp (fun _ hk => hk) trivial (Below.refl _ _) (Nat.le_refl _) (by simp) ?_; (case hd => rfl); (case hg => rfl); (case hr => first | (go_simp; done) | (go_simp; rfl)); (case hp => exact (Reps.none _ _)); intro v1 w1 ho1 hb1 hg1 hn1; clear hg1 hn1; have HO := Aside0.mk ho1; have HB1 := Aside0.mk hb1; have HR1 := Aside0.mk (Kd.C_below HR0.out hb1); clear ho1 hb1) | ((with_reducible refine gate_builtin (b := .append) (xs := #[.tmp 5, .tmp 6]) rfl ?_); at_builtin; refine Kd.R_append_rows (Kd.int .u8) (w0 := w) w.heap.size rfl (.tmp 5) (.tmp 6) 29 5 (.int .u8 0) 1 rfl Try.underlying29 info5 rfl (by decide) (by omega) v1 [] l0 _ _ _ (fun _ => True) (fun _ => False) rfl rfl ?aO ?aR (fun _ _ h => h) (fun _ h => h.elim) ?aF ?aB ?aS ?aL ?_; (case aO => exact HO.out); (case aR => exact HR1.out); (case aB => exact HB1.out); (case aF => exact fun _ _ => trivial); (case aS => exact below_size HB1.out); (case aL => have := HL0.out; simp only [List.length_nil, Nat.zero_add]; omega); intro v2 w2 ho2 hb2 hg2 hat2; rw [List.nil_append] at ho2; have HO2 := Aside0.mk ho2; have HB2 := Aside0.mk hb2; clear ho2 hb2 hg2 hat2))
      go_ret
      exact ⟨_, rfl, HO2.out, HB2.out⟩
  · rw [if_neg hl] at h
    cases h

set_option maxHeartbeats 8000000 in
set_option maxRecDepth 100000 in
theorem mapsCloneC {w : World} {b : Nat} {es : Array MapEntry} {clock : Nat} (hb : w.heap[b]? = some (.map es clock)) : Calls Try.prog 40 #[.map (some b)] w fun e w' => e = .returned (.map (some w.heap.size)) ∧ w' = w.alloc (.map es clock) := by
  have hq := fun w => run_eql_map_nil_sl (P := Try.prog) w 56 _ _ (some b) Try.underlying56
  go_enter Try.func40, Try.ntmps40
  go_wp2
  rw [run_callFunc_extern Try.func54 (by kernel_rfl) (by kernel_rfl) (by kernel_rfl) (e := Extern.MapsClone.clone) (by kernel_rfl), run_maps_clone_sl w 56 hb]
  simp only [Result.andThen]
  rw [Oper.upon_value]
  go_wp2
  rw [run_typeAssert_map_sl _ 56 20 _ _ _ Try.underlying56]
  simp only [Result.andThen]
  rw [Oper.upon_value]
  go_wp2
  go_ret
  exact ⟨rfl, rfl⟩
/-- What find names. -/
theorem find_mem {d : DSt} (ho : Ok d) {s : ByteArray} {g : Nat} (h : (findR d s).1 = some g) : ∃ f ∈ d.fs, f.g = g ∧ getM d.dir s = some g ∧ badName s = false := by
  unfold findR at h
  split at h
  · cases h
  · next hb =>
    split at h
    · cases h
    · next g' hg =>
      simp only [Option.some.injEq] at h
      subst h
      obtain ⟨f, hf, he⟩ := ho _ (getM_mem hg)
      exact ⟨f, hf, he, hg, by simpa using hb⟩
theorem find_none {d : DSt} {s : ByteArray} (h : (findR d s).1 = none) : (findR d s).2 ≠ 0 := by
  unfold findR at h ⊢
  split
  · decide
  · next hb =>
    rw [if_neg hb] at h
    split
    · decide
    · next g' hg => rw [hg] at h; cases h
theorem find_some {d : DSt} {s : ByteArray} {g : Nat} (h : (findR d s).1 = some g) : (findR d s).2 = 0 := by
  unfold findR at h ⊢
  split
  · next hb => rw [if_pos hb] at h; cases h
  · next hb =>
    rw [if_neg hb] at h
    split
    · next hg => rw [hg] at h; cases h
    · rfl
set_option maxHeartbeats 8000000 in
set_option maxRecDepth 100000 in
theorem readNo {w : World} {d : DSt} (h : DiskAt w d) (s : ByteArray) (hn : (findR d s).1 = none) : Calls Try.prog 14 #[.pointer (some ⟨d.gd, 0, none⟩), .string s] w fun e w' => e = .returned (.tuple #[.slice none 0 0, .int .i64 (findR d s).2]) ∧ Below w.heap.size w w' := by
  have hf := findC h s
  have hne := find_none hn
  rw [hn] at hf
  generalize (findR d s).2 = q at hf hne
  have c1 : (q == 0) = false := beq_eq_false_iff_ne.mpr hne
  have c2 : (q != 0) = true := bne_iff_ne.mpr hne
  unfold pv at hf
  dsimp only [Option.map] at hf
  clear h hn hne
  go_enter Try.func14, Try.ntmps14
  go_wp2_with (go_at_call 38; refine hf.mono ?_; rintro e w1 ⟨rfl, hb⟩; have HB := Aside0.mk hb; clear hb)
  go_ret2
  exact ⟨rfl, HB.out⟩
set_option maxHeartbeats 8000000 in
set_option maxRecDepth 100000 in
theorem readOk {w : World} {d : DSt} (h : DiskAt w d) (s : ByteArray) {f : FS} (hf : f ∈ d.fs) (hn : (findR d s).1 = some f.g) (hl : f.bs.length < 140737488355328) : Calls Try.prog 14 #[.pointer (some ⟨d.gd, 0, none⟩), .string s] w fun e w' => ∃ v : Value, e = .returned (.tuple #[v, .int .i64 0]) ∧ Kd.R (Kd.int .u8) 5 w' w.heap.size (fun _ => True) v f.bs ∧ Below w.heap.size w w' := by
  have hfi := findC h s
  rw [hn, find_some hn] at hfi
  unfold pv at hfi
  dsimp only [Option.map] at hfi
  have HD := Aside0.mk h
  have HL := Aside0.mk hl
  obtain ⟨gF, vF, bF, sF⟩ := f
  obtain ⟨A, c, e⟩ := Kd.R_slice (h.hf _ hf).hr
  simp only at e hfi hl HL
  subst e
  have HFm := Aside0.mk hf
  clear h hn hl hf
  go_enter Try.func14, Try.ntmps14
  go_wp2_with (first
    | (go_at_call 38; refine hfi.mono ?_; rintro e w1 ⟨rfl, hb⟩; have HB := Aside0.mk hb; have hD1 := HD.out.below hb; have hcf : w1.cell? ⟨gF, 0, none⟩ = some (.slice A bF.length c) := blk_cell (hD1.hf _ HFm.out).hb 0; have HR := Aside0.mk (Kd.R_reads' (hD1.hf _ HFm.out).hr).2; clear hb hD1)
    | (go_at_call 39; (with_reducible refine (slices_Clone_byte_byte.calls A c bF bF _ HR.out.2 HR.out.1 (by unfold slices_Clone_byte_byte.f; rw [if_pos HL.out])).mono ?_); rintro e w2 ⟨v2, rfl, ho, hb⟩; have HO := Aside0.mk (Kd.R_lower ho HB.out.size); have HB2 := Aside0.mk (below_step HB.out hb); clear ho hb))
  go_ret2
  exact ⟨_, rfl, HO.out, HB2.out⟩
end Go.Proofs.Ytoninmgglcepmaa.Dk
