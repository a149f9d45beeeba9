/- A file made safe, the directory made safe: the walks of Sync and SyncDir. -/
import Derived.Test.YtoninmgglcepmaaD7
namespace Go.Proofs.Ytoninmgglcepmaa.Dk
open RegD Go.RowKit Go.ChangeMaps Go.Proofs.YtoninmgglcepmaaW.PrintWords Go.Proofs.YtoninmgglcepmaaW.PrintLast Go.Proofs.YtoninmgglcepmaaW.PrintMore Mp
attribute [local go_sem] max2_int min2_int max_two min_two max_three min_three max_four min_four
set_option linter.unusedVariables false
set_option linter.unusedSimpArgs false
theorem DiskAt.put_safe {w : World} {d : DSt} (h : DiskAt w d) {f : FS} (hf : f ∈ d.fs) (n : Int) : DiskAt (w.setCell ⟨f.g, 1, none⟩ (.int .i64 n)) { d with fs := updF d.fs f.g fun x => { x with v := f.v, bs := f.bs, safe := n } } := by
  have hg2 := grown_set (Below.refl w.heap.size w) f.g 1 (.int .i64 n)
  refine h.upd hf (fun k h1 h2 _ => hg2.block k h1 (fun he => h2 (by injection he))) ⟨blk_put (h.hf f hf).hb 1 _ rfl, row_same rfl (h.hf f hf).hr (fun k hk => hg2.block k (Kd.R_lt (h.hf f hf).hr k hk) (fun he => ?_))⟩ (.inl rfl)
  injection he with he
  subst he
  exact h.f_v hf hf hk
set_option maxHeartbeats 8000000 in
set_option maxRecDepth 100000 in
theorem syncNo {w : World} {d : DSt} (h : DiskAt w d) (s : ByteArray) (hn : (findR d s).1 = none) : Calls Try.prog 16 #[.pointer (some ⟨d.gd, 0, none⟩), .string s] w fun e w' => e = .returned (.int .i64 (findR d s).2) ∧ Below w.heap.size w w' := by
  have hf := findC h s
  have hne := find_none hn
  rw [hn] at hf
  generalize (findR d s).2 = q at hf hne
  have c1 : (q == 0) = false := beq_eq_false_iff_ne.mpr hne
  unfold pv at hf
  dsimp only [Option.map] at hf
  clear h hn hne
  go_enter Try.func16, Try.ntmps16
  go_wp2_with (go_at_call 38; refine hf.mono ?_; rintro e w1 ⟨rfl, hb⟩; have HB := Aside0.mk hb; clear hb)
  go_ret
  exact ⟨rfl, HB.out⟩
set_option maxHeartbeats 8000000 in
set_option maxRecDepth 100000 in
theorem syncOk {w : World} {d : DSt} (h : DiskAt w d) (s : ByteArray) {f : FS} (hf : f ∈ d.fs) (hn : (findR d s).1 = some f.g) : Calls Try.prog 16 #[.pointer (some ⟨d.gd, 0, none⟩), .string s] w fun e w' => e = .returned (.int .i64 0) ∧ DiskAt w' { d with fs := updF d.fs f.g fun x => { x with v := f.v, bs := f.bs, safe := (f.bs.length : Int) } } ∧ Kept w w' (Foot d) := by
  have hfi := findC h s
  rw [hn, find_some hn] at hfi
  unfold pv at hfi
  dsimp only [Option.map] at hfi
  have HD := Aside0.mk h
  obtain ⟨gF, vF, bF, sF⟩ := f
  obtain ⟨A, c, e⟩ := Kd.R_slice (h.hf _ hf).hr
  simp only at e hfi
  subst e
  have HFm := Aside0.mk hf
  clear h hn hf
  go_enter Try.func16, Try.ntmps16
  go_wp2_with (first
    | (go_at_call 38; refine hfi.mono ?_; rintro e w1 ⟨rfl, hb⟩; have HB := Aside0.mk hb; have HD1 := Aside0.mk (HD.out.below hb); have hcf : w1.cell? ⟨gF, 0, none⟩ = some (.slice A bF.length c) := blk_cell (HD1.out.hf _ HFm.out).hb 0; have hcs : w1.cell? ⟨gF, 1, none⟩ = some (.int .i64 sF) := blk_cell (HD1.out.hf _ HFm.out).hb 1; have hff := blk_frozen (HD1.out.hf _ HFm.out).hb 1; clear hb))
  have HN := Aside0.mk (HD1.out.put_safe HFm.out (bF.length : Int))
  go_ret
  exact ⟨rfl, HN.out, Kept.of_grown (grown_set (Below.refl w1.heap.size w1) gF 1 _) (Kept.of_below HB.out _) (fun k hk => by injection hk with hk; exact .inl (.inr (.inr (.inr (.inr ⟨_, HFm.out, .inl hk.symm⟩)))))⟩
theorem mb_clone {w : World} {b : Nat} {l : List (ByteArray × Value)} (h : MapB w b l) : ∃ es clock, w.heap[b]? = some (.map es clock) ∧ MapB (w.alloc (.map es clock)) w.heap.size l := by
  obtain ⟨es, clock, h1, h2⟩ := h
  exact ⟨es, clock, h1, es, clock, blk_new w _, h2⟩
/-- What SyncDir leaves: nb is the new map's block. -/
def syncD (d : DSt) (nb : Nat) : DSt := { d with bs := nb, safe := d.dir, vch := .slice none 0 0, chg := [] }
set_option maxHeartbeats 8000000 in
set_option maxRecDepth 100000 in
theorem syncDirC {w : World} {d : DSt} (h : DiskAt w d) : Calls Try.prog 17 #[.pointer (some ⟨d.gd, 0, none⟩)] w fun e w' => e = .returned (.tuple #[]) ∧ DiskAt w' (syncD d w.heap.size) ∧ Kept w w' (Foot d) := by
  have hc0 : w.cell? ⟨d.gd, 0, none⟩ = some (.map (some d.bd)) := blk_cell h.hd 0
  obtain ⟨es, clock, hes, hmb⟩ := mb_clone h.hm
  have HC := Lib.hid (mapsCloneC hes)
  have HMB := Aside0.mk hmb
  have HB := Aside0.mk (below_alloc (Below.refl w.heap.size w) (.map es clock))
  have HD := Aside0.mk (h.below HB.out)
  have HNB := Aside0.mk (show w.heap.size ≠ d.bd from Nat.ne_of_gt (mb_lt h.hm))
  clear h hes hmb
  go_enter Try.func17, Try.ntmps17
  go_wp2_with (first
    | (go_at_call 40; refine HC.out.mono ?_; rintro e w1 ⟨rfl, hw1⟩; rw [← hw1] at HMB HB HD; clear hw1; have hc1 : w1.cell? ⟨d.gd, 1, none⟩ = some (.map (some d.bs)) := blk_cell HD.out.hd 1; have hc2 : w1.cell? ⟨d.gd, 2, none⟩ = some d.vch := blk_cell HD.out.hd 2; have hf1 := blk_frozen HD.out.hd 1; have hf2 := blk_frozen HD.out.hd 2))
  go_end0
  have h2 := HD.out.put_safemap HMB.out HNB.out
  have h3 := h2.put_chg0
  exact ⟨rfl, h3, Kept.of_grown (grown_set (Below.refl _ _) d.gd 2 _) (Kept.of_grown (grown_set (Below.refl w1.heap.size w1) d.gd 1 _) (Kept.of_below HB.out _) (fun k hk => by injection hk with hk; exact .inl (.inl hk.symm))) (fun k hk => by injection hk with hk; exact .inl (.inl hk.symm))⟩
end Go.Proofs.Ytoninmgglcepmaa.Dk
