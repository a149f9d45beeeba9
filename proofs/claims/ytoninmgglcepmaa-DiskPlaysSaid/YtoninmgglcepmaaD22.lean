/- A byte is turned: the walk of Turn. -/
import Derived.Test.YtoninmgglcepmaaDC
namespace Go.Proofs.Ytoninmgglcepmaa.Dk
open Go.ChangeMaps hiding rd
open RegD Go.RowKit Go.Proofs.YtoninmgglcepmaaW.PrintWords Go.Proofs.YtoninmgglcepmaaW.PrintLast Go.Proofs.YtoninmgglcepmaaW.PrintMore Mp
attribute [local go_sem] max2_int min2_int max_two min_two max_three min_three max_four min_four
set_option linter.unusedVariables false
set_option linter.unusedSimpArgs false
def setF (d : DSt) (f : FS) (i : Nat) (x : Int) : DSt := { d with fs := updF d.fs f.g fun y => { y with v := f.v, bs := f.bs.set i x, safe := f.safe } }
theorem turnStep {w : World} {d : DSt} (h : DiskAt w d) {f : FS} (hf : f ∈ d.fs) {g c i : Nat} {x : Int} (hv : f.v = .slice (some ⟨g, 0, none⟩) f.bs.length c) : DiskAt (w.setCell ⟨g, i, none⟩ (.int .u8 x)) (setF d f i x) := by
  have hg : f.v.ownBlock = some g := by rw [hv]; rfl
  have hne : g ≠ f.g := fun he => h.f_v hf hf (by rw [hg, he])
  have hr2 := Kd.R_put (enc := Value.int .u8) (h1 := fun _ => rfl) (xs := f.bs) (hv ▸ (h.hf f hf).hr) (i : Int) x
  rw [Int.toNat_natCast] at hr2
  exact h.upd hf (fun k h1 h2 h3 => Below.heap_setCell _ _ _ _ (fun he => h3 (by rw [hg, he]))) ⟨(Below.heap_setCell _ _ _ _ hne.symm).trans (h.hf f hf).hb, by rw [hv]; exact hr2.1⟩ (.inl rfl)
theorem setF_goes {w : World} {d : DSt} {f : FS} (hf : f ∈ d.fs) {g c i : Nat} {x : Int} (hv : f.v = .slice (some ⟨g, 0, none⟩) f.bs.length c) : Goes w d (w.setCell ⟨g, i, none⟩ (.int .u8 x)) (setF d f i x) := by
  have hg : f.v.ownBlock = some g := by rw [hv]; rfl
  refine ⟨Kept.of_grown (grown_set (Below.refl _ _) g i _) (Kept.refl _ _) (fun k hk => by injection hk with hk; exact .inl (.inr (.inr (.inr (.inr ⟨f, hf, .inr (hk ▸ hg)⟩))))), fun k hk => .inl ?_, rfl⟩
  rcases hk with hk | hk | hk | hk | ⟨y, hy, hk⟩
  · exact .inl hk
  · exact .inr (.inl hk)
  · exact .inr (.inr (.inl hk))
  · exact .inr (.inr (.inr (.inl hk)))
  · obtain ⟨f', hf', ⟨e1, rfl⟩ | ⟨e1, rfl⟩⟩ := mem_updF hy
    · rcases hk with hk | hk
      · exact .inr (.inr (.inr (.inr ⟨f', hf', .inl hk⟩)))
      · exact .inr (.inr (.inr (.inr ⟨f, hf, .inr hk⟩)))
    · exact .inr (.inr (.inr (.inr ⟨_, hf', hk⟩)))
theorem Inv.setF_ {d : DSt} {n k : Nat} (h : Inv d n k) {f : FS} (hf : f ∈ d.fs) (i : Nat) (x : Int) : Inv (setF d f i x) (n + 1) k := by
  refine h.files rfl rfl rfl (updF_g fun _ => rfl) (fun y hy => ?_) h.quota
  obtain ⟨z, hz, ⟨_, rfl⟩ | ⟨_, rfl⟩⟩ := mem_updF hy
  · obtain ⟨h1, h2, h3⟩ := h.sf1 f hf
    exact ⟨h1, by simp only [List.length_set]; exact h2, by simp only [List.length_set]; exact h3⟩
  · exact h.sf1 _ hz
section
variable {w : World} {d : DSt} (h : DiskAt w d)
include h
set_option maxHeartbeats 8000000 in
set_option maxRecDepth 100000 in
theorem turn0 (s : ByteArray) (a x : Int) (hn : getM d.dir s = none) : Calls Try.prog 23 #[.pointer (some ⟨d.gd, 0, none⟩), .string s, .int .i64 a, .int .u8 x] w fun e w' => e = .returned (.bool false) ∧ Below w.heap.size w w' := by
  have hc0 : w.cell? ⟨d.gd, 0, none⟩ = some (.map (some d.bd)) := blk_cell h.hd 0
  have hlk := look_dir h.hm s
  rw [hn] at hlk
  replace hlk : (Instr.lookup 56 (.map (some d.bd)) (.string s) false).run Try.prog w = .ok (.pointer none) w := hlk
  clear h hn
  go_enter Try.func23, Try.ntmps23
  go_wp2
  go_ret
  exact ⟨rfl, Below.refl _ _⟩
set_option maxHeartbeats 8000000 in
set_option maxRecDepth 100000 in
theorem turn1 (s : ByteArray) (a x : Int) {f : FS} (hf : f ∈ d.fs) (hn : getM d.dir s = some f.g) (ha : ¬ (0 ≤ a ∧ a < f.bs.length)) : Calls Try.prog 23 #[.pointer (some ⟨d.gd, 0, none⟩), .string s, .int .i64 a, .int .u8 x] w fun e w' => e = .returned (.bool false) ∧ Below w.heap.size w w' := by
  have hc0 : w.cell? ⟨d.gd, 0, none⟩ = some (.map (some d.bd)) := blk_cell h.hd 0
  have hlk := look_dir h.hm s
  rw [hn] at hlk
  obtain ⟨gF, vF, bF, sF⟩ := f
  obtain ⟨A, c, e⟩ := Kd.R_slice (h.hf _ hf).hr
  simp only at e hlk ha
  subst e
  replace hlk : (Instr.lookup 56 (.map (some d.bd)) (.string s) false).run Try.prog w = .ok (.pointer (some ⟨gF, 0, none⟩)) w := hlk
  have hcf : w.cell? ⟨gF, 0, none⟩ = some (.slice A bF.length c) := blk_cell (h.hf _ hf).hb 0
  have hd : decide (a < 0) = true ∨ (decide (a < 0) = false ∧ decide ((bF.length : Int) ≤ a) = true) := by
    by_cases h1 : a < 0
    · exact .inl (decide_eq_true h1)
    · exact .inr ⟨decide_eq_false h1, decide_eq_true (by omega)⟩
  clear h hn hf ha
  rcases hd with b1 | ⟨b1, b2⟩
  all_goals
    go_enter Try.func23, Try.ntmps23
    go_wp2
    go_ret
    exact ⟨rfl, Below.refl _ _⟩
set_option maxHeartbeats 8000000 in
set_option maxRecDepth 100000 in
theorem turn2 (s : ByteArray) (a : Nat) (x : Int) {f : FS} (hf : f ∈ d.fs) (hn : getM d.dir s = some f.g) (ha : a < f.bs.length) : Calls Try.prog 23 #[.pointer (some ⟨d.gd, 0, none⟩), .string s, .int .i64 (a : Int), .int .u8 x] w fun e w' => e = .returned (.bool true) ∧ DiskAt w' (setF d f a (bits .xor .u8 (rd f.bs (a : Int)) x)) ∧ Goes w d w' (setF d f a (bits .xor .u8 (rd f.bs (a : Int)) x)) := by
  have HD := Aside0.mk h
  have HF := Aside0.mk hf
  have hc0 : w.cell? ⟨d.gd, 0, none⟩ = some (.map (some d.bd)) := blk_cell h.hd 0
  have hlk := look_dir h.hm s
  rw [hn] at hlk
  obtain ⟨g, c, e, _, _, _⟩ := Kd.R_form (h.hf _ hf).hr (by omega)
  have hE := Aside0.mk e
  have hcf : w.cell? ⟨f.g, 0, none⟩ = some (.slice (some ⟨g, 0, none⟩) f.bs.length c) := by rw [← e]; exact blk_cell (h.hf _ hf).hb 0
  replace hlk : (Instr.lookup 56 (.map (some d.bd)) (.string s) false).run Try.prog w = .ok (.pointer (some ⟨f.g, 0, none⟩)) w := hlk
  obtain ⟨adb, hA, hcb⟩ := Kd.at_int (Kd.R_reads' (e ▸ (h.hf _ hf).hr)).2.2 (a : Int) (by omega) (by omega)
  obtain rfl : (⟨g, 0, none⟩ : Addr) = adb := by injection hA
  rw [Int.toNat_natCast, add0] at hcb
  have hfz : w.frozen? ⟨g, a, none⟩ = false := by
    obtain ⟨cs, hcs⟩ := h.f_typed hf (k := g) (by rw [e]; rfl)
    exact blk_frozen hcs a
  have b1 : decide ((a : Int) < 0) = false := decide_eq_false (by omega)
  have b2 : decide ((f.bs.length : Int) ≤ (a : Int)) = false := decide_eq_false (by omega)
  clear h hn hf e hA
  go_enter Try.func23, Try.ntmps23
  go_wp2
  go_ret
  exact ⟨rfl, turnStep HD.out HF.out hE.out, setF_goes HF.out hE.out⟩
end
end Go.Proofs.Ytoninmgglcepmaa.Dk
