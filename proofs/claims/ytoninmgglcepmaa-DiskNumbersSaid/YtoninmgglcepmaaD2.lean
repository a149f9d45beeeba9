/- A disk in memory: what each store makes of it. -/
import Derived.Test.YtoninmgglcepmaaD1
namespace Go.Proofs.Ytoninmgglcepmaa.Dk
open Go.RowKit Go.ChangeMaps Go.Proofs.YtoninmgglcepmaaW.PrintWords Go.Proofs.YtoninmgglcepmaaW.PrintLast Go.Proofs.YtoninmgglcepmaaW.PrintMore Mp
set_option linter.unusedVariables false
set_option linter.unusedSimpArgs false
theorem grown_set {w w1 : World} (h : Below w.heap.size w w1) (b j : Nat) (v : Value) : w.grownBy (w1.setCell ⟨b, j, none⟩ v) (some b) :=
  ⟨h.os, h.tape, h.output, by have := h.size; simpa [World.setCell] using this, fun k hk hne => (Below.heap_setCell _ _ _ _ (fun e => hne (by rw [e]))).trans (h.block k hk)⟩
theorem grown_then {w w1 w2 : World} {r : Option Nat} (h : w.grownBy w1 r) (k : w1.grownBy w2 r) : w.grownBy w2 r :=
  ⟨k.os.trans h.os, k.tape.trans h.tape, k.output.trans h.output, Nat.le_trans h.size k.size, fun i hi hn => (k.block i (Nat.lt_of_lt_of_le hi h.size) hn).trans (h.block i hi hn)⟩
theorem grown_block {w : World} {b : Nat} {o : Obj} : w.grownBy (setBlock w b o) (some b) :=
  ⟨rfl, rfl, rfl, by simp [setBlock], fun i _ hn => by
    simp only [setBlock]
    exact Array.getElem?_setIfInBounds_ne (fun he => hn (by rw [he]))⟩
section
variable {w w' : World} {d : DSt} (h : DiskAt w d)
include h
theorem DiskAt.gd_ch : d.vch.ownBlock ≠ some d.gd := fun he => by
  obtain ⟨cs, hc⟩ := h.ch_typed he
  exact blk_ne h.hd hc (by decide) rfl
theorem DiskAt.gd_f {f : FS} (hf : f ∈ d.fs) : f.g ≠ d.gd := (blk_ne h.hd (h.hf f hf).hb (by decide)).symm
theorem DiskAt.gd_v {f : FS} (hf : f ∈ d.fs) : f.v.ownBlock ≠ some d.gd := fun he => by
  obtain ⟨cs, hc⟩ := h.f_typed hf he
  exact blk_ne h.hd hc (by decide) rfl
theorem DiskAt.f_ch {f : FS} (hf : f ∈ d.fs) : d.vch.ownBlock ≠ some f.g := fun he => by
  obtain ⟨cs, hc⟩ := h.ch_typed he
  exact blk_ne (h.hf f hf).hb hc (by decide) rfl
theorem DiskAt.f_v {f f' : FS} (hf : f ∈ d.fs) (hf' : f' ∈ d.fs) : f'.v.ownBlock ≠ some f.g := fun he => by
  obtain ⟨cs, hc⟩ := h.f_typed hf' he
  exact blk_ne (h.hf f hf).hb hc (by decide) rfl
theorem DiskAt.ch_v {f : FS} (hf : f ∈ d.fs) {k : Nat} (hk : f.v.ownBlock = some k) : d.vch.ownBlock ≠ some k := fun he => by
  obtain ⟨cs, hc⟩ := h.ch_typed he
  obtain ⟨cs', hc'⟩ := h.f_typed hf hk
  exact blk_ne hc hc' (by decide) rfl
/-- A block that none of the disk's maps is. -/
theorem DiskAt.map_ch {k : Nat} (hk : d.vch.ownBlock = some k) : k ≠ d.bd ∧ k ≠ d.bs := by
  obtain ⟨cs, hc⟩ := h.ch_typed hk
  exact h.ne_map hc
theorem DiskAt.map_f {f : FS} (hf : f ∈ d.fs) : f.g ≠ d.bd ∧ f.g ≠ d.bs := h.ne_map (h.hf f hf).hb
theorem DiskAt.map_v {f : FS} (hf : f ∈ d.fs) {k : Nat} (hk : f.v.ownBlock = some k) : k ≠ d.bd ∧ k ≠ d.bs := by
  obtain ⟨cs, hc⟩ := h.f_typed hf hk
  exact h.ne_map hc
/-- The quota is set. -/
theorem DiskAt.put_quota (q : Int) : DiskAt (w.setCell ⟨d.gd, 3, none⟩ (.int .i64 q)) { d with quota := q } := by
  have hg := grown_set (Below.refl w.heap.size w) d.gd 3 (.int .i64 q)
  have hk : ∀ k, k < w.heap.size → k ≠ d.gd → (w.setCell ⟨d.gd, 3, none⟩ (.int .i64 q)).heap[k]? = w.heap[k]? := fun k h1 h2 => hg.block k h1 (fun he => h2 (by injection he))
  refine ⟨blk_put h.hd 3 _ rfl, mb_same h.hm (hk _ (mb_lt h.hm) (h.ne_map h.hd).1.symm), mb_same h.hs (hk _ (mb_lt h.hs) (h.ne_map h.hd).2.symm), h.hne, row_same rfl h.hc (fun k hc => hk k (Kd.R_lt h.hc k hc) (fun he => h.gd_ch (he ▸ hc))), fun f hf => (h.hf f hf).same (hk _ (blk_lt (h.hf f hf).hb) (h.gd_f hf)) (fun k hv => hk k (Kd.R_lt (h.hf f hf).hr k hv) (fun he => h.gd_v hf (he ▸ hv))), h.hg, h.hv⟩
/-- The directory's map is another block, or holds something else. -/
theorem DiskAt.put_dir {dir : List (ByteArray × Nat)} (hg : w.grownBy w' (some d.bd)) (hm : MapB w' d.bd (ptrs dir)) : DiskAt w' { d with dir := dir } := by
  have hk : ∀ k, k < w.heap.size → k ≠ d.bd → w'.heap[k]? = w.heap[k]? := fun k h1 h2 => hg.block k h1 (fun he => h2 (by injection he))
  exact ⟨(hk _ (blk_lt h.hd) (h.ne_map h.hd).1).trans h.hd, hm, mb_same h.hs (hk _ (mb_lt h.hs) (Ne.symm h.hne)), h.hne, row_same rfl h.hc (fun k hc => hk k (Kd.R_lt h.hc k hc) (h.map_ch hc).1), fun f hf => (h.hf f hf).same (hk _ (blk_lt (h.hf f hf).hb) (h.map_f hf).1) (fun k hv => hk k (Kd.R_lt (h.hf f hf).hr k hv) (h.map_v hf hv).1), h.hg, h.hv⟩
/-- Fields 0, 1, 2 of the disk's block are set: another map (one that is no block of the disk), other changes. -/
theorem DiskAt.put_dirmap {nb : Nat} {dir : List (ByteArray × Nat)} (hm : MapB w nb (ptrs dir)) (hn : nb ≠ d.bs) : DiskAt (w.setCell ⟨d.gd, 0, none⟩ (.map (some nb))) { d with bd := nb, dir := dir } := by
  have hg := grown_set (Below.refl w.heap.size w) d.gd 0 (.map (some nb))
  have hk : ∀ k, k < w.heap.size → k ≠ d.gd → (w.setCell ⟨d.gd, 0, none⟩ (.map (some nb))).heap[k]? = w.heap[k]? := fun k h1 h2 => hg.block k h1 (fun he => h2 (by injection he))
  have hng : nb ≠ d.gd := by
    rintro rfl
    obtain ⟨_, _, h1⟩ := mb_ex hm
    rw [h.hd] at h1
    cases h1
  exact ⟨blk_put h.hd 0 _ rfl, mb_same hm (hk _ (mb_lt hm) hng), mb_same h.hs (hk _ (mb_lt h.hs) (h.ne_map h.hd).2.symm), hn, row_same rfl h.hc (fun k hc => hk k (Kd.R_lt h.hc k hc) (fun he => h.gd_ch (he ▸ hc))), fun f hf => (h.hf f hf).same (hk _ (blk_lt (h.hf f hf).hb) (h.gd_f hf)) (fun k hv => hk k (Kd.R_lt (h.hf f hf).hr k hv) (fun he => h.gd_v hf (he ▸ hv))), h.hg, h.hv⟩
theorem DiskAt.put_safemap {nb : Nat} {l : List (ByteArray × Nat)} (hm : MapB w nb (ptrs l)) (hn : nb ≠ d.bd) : DiskAt (w.setCell ⟨d.gd, 1, none⟩ (.map (some nb))) { d with bs := nb, safe := l } := by
  have hg := grown_set (Below.refl w.heap.size w) d.gd 1 (.map (some nb))
  have hk : ∀ k, k < w.heap.size → k ≠ d.gd → (w.setCell ⟨d.gd, 1, none⟩ (.map (some nb))).heap[k]? = w.heap[k]? := fun k h1 h2 => hg.block k h1 (fun he => h2 (by injection he))
  have hng : nb ≠ d.gd := by
    rintro rfl
    obtain ⟨_, _, h1⟩ := mb_ex hm
    rw [h.hd] at h1
    cases h1
  exact ⟨blk_put h.hd 1 _ rfl, mb_same h.hm (hk _ (mb_lt h.hm) (h.ne_map h.hd).1.symm), mb_same hm (hk _ (mb_lt hm) hng), Ne.symm hn, row_same rfl h.hc (fun k hc => hk k (Kd.R_lt h.hc k hc) (fun he => h.gd_ch (he ▸ hc))), fun f hf => (h.hf f hf).same (hk _ (blk_lt (h.hf f hf).hb) (h.gd_f hf)) (fun k hv => hk k (Kd.R_lt (h.hf f hf).hr k hv) (fun he => h.gd_v hf (he ▸ hv))), h.hg, h.hv⟩
theorem DiskAt.put_chg0 : DiskAt (w.setCell ⟨d.gd, 2, none⟩ (.slice none 0 0)) { d with vch := .slice none 0 0, chg := [] } := by
  have hg := grown_set (Below.refl w.heap.size w) d.gd 2 (.slice none 0 0)
  have hk : ∀ k, k < w.heap.size → k ≠ d.gd → (w.setCell ⟨d.gd, 2, none⟩ (.slice none 0 0)).heap[k]? = w.heap[k]? := fun k h1 h2 => hg.block k h1 (fun he => h2 (by injection he))
  exact ⟨blk_put h.hd 2 _ rfl, mb_same h.hm (hk _ (mb_lt h.hm) (h.ne_map h.hd).1.symm), mb_same h.hs (hk _ (mb_lt h.hs) (h.ne_map h.hd).2.symm), h.hne, Kd.R_nil _ _ _ _ _, fun f hf => (h.hf f hf).same (hk _ (blk_lt (h.hf f hf).hb) (h.gd_f hf)) (fun k hv => hk k (Kd.R_lt (h.hf f hf).hr k hv) (fun he => h.gd_v hf (he ▸ hv))), h.hg, h.hv⟩
/-- The changes' row has grown (its block written, or a new one), and is laid into field 2. -/
theorem DiskAt.put_chg {v1 : Value} {l : List Chg} (hr : kC.R 66 w' 0 (fun _ => True) v1 l) (hg : w.grownBy w' d.vch.ownBlock) (hat : v1.ownBlock = d.vch.ownBlock ∨ ∃ b, v1.ownBlock = some b ∧ w.heap.size ≤ b) : DiskAt (w'.setCell ⟨d.gd, 2, none⟩ v1) { d with vch := v1, chg := l } := by
  have hg2 := grown_set (Below.refl w'.heap.size w') d.gd 2 v1
  have hk : ∀ k, k < w.heap.size → k ≠ d.gd → d.vch.ownBlock ≠ some k → (w'.setCell ⟨d.gd, 2, none⟩ v1).heap[k]? = w.heap[k]? := fun k h1 h2 h3 => (hg2.block k (Nat.lt_of_lt_of_le h1 hg.size) (fun he => h2 (by injection he))).trans (hg.block k h1 (fun he => h3 he.symm))
  have hd1 := blk_grown h.hd hg (fun he => h.gd_ch he.symm)
  refine ⟨blk_put hd1 2 _ rfl, mb_same h.hm (hk _ (mb_lt h.hm) (h.ne_map h.hd).1.symm (fun he => (h.map_ch he).1 rfl)), mb_same h.hs (hk _ (mb_lt h.hs) (h.ne_map h.hd).2.symm (fun he => (h.map_ch he).2 rfl)), h.hne, row_same rfl hr (fun k hc => hg2.block k (Kd.R_lt hr k hc) (fun he => ?_)), fun f hf => (h.hf f hf).same (hk _ (blk_lt (h.hf f hf).hb) (h.gd_f hf) (h.f_ch hf)) (fun k hv => hk k (Kd.R_lt (h.hf f hf).hr k hv) (fun he => h.gd_v hf (he ▸ hv)) (h.ch_v hf hv)), h.hg, h.hv⟩
  injection he with he
  subst he
  obtain ⟨cs, hcs⟩ := Kd.R_typed hr _ hc
  exact blk_ne hd1 hcs (by decide) rfl
end
/-- One file is turned. -/
def updF (fs : List FS) (g : Nat) (u : FS → FS) : List FS := fs.map fun f => if f.g = g then u f else f
theorem mem_updF {fs : List FS} {g : Nat} {u : FS → FS} {x : FS} (h : x ∈ updF fs g u) : ∃ f ∈ fs, (f.g = g ∧ x = u f) ∨ (f.g ≠ g ∧ x = f) := by
  obtain ⟨f, hf, rfl⟩ := List.mem_map.1 h
  by_cases hc : f.g = g
  · exact ⟨f, hf, .inl ⟨hc, by rw [if_pos hc]⟩⟩
  · exact ⟨f, hf, .inr ⟨hc, by rw [if_neg hc]⟩⟩
section
variable {w w' : World} {d : DSt} (h : DiskAt w d)
include h
/-- A file's row has been written (or is a new one), and lies in the file's block: what is left to show of the file alone. -/
theorem DiskAt.upd {f : FS} (hf : f ∈ d.fs) {v1 : Value} {bs1 : List Int} {s1 : Int} (hk : ∀ k, k < w.heap.size → k ≠ f.g → f.v.ownBlock ≠ some k → w'.heap[k]? = w.heap[k]?)
    (hF : FileAt w' ⟨f.g, v1, bs1, s1⟩) (hat : v1.ownBlock = f.v.ownBlock ∨ v1.ownBlock = none ∨ ∃ b, v1.ownBlock = some b ∧ w.heap.size ≤ b) :
    DiskAt w' { d with fs := updF d.fs f.g fun x => { x with v := v1, bs := bs1, safe := s1 } } := by
  have hsz : ∀ f' ∈ d.fs, ∀ k, f'.v.ownBlock = some k → k < w.heap.size := fun f' hf' k hk' => Kd.R_lt (h.hf f' hf').hr k hk'
  refine ⟨(hk _ (blk_lt h.hd) (h.gd_f hf).symm (h.gd_v hf)).trans h.hd, mb_same h.hm (hk _ (mb_lt h.hm) (h.map_f hf).1.symm (fun he => (h.map_v hf he).1 rfl)), mb_same h.hs (hk _ (mb_lt h.hs) (h.map_f hf).2.symm (fun he => (h.map_v hf he).2 rfl)), h.hne,
    row_same rfl h.hc (fun k hc => hk k (Kd.R_lt h.hc k hc) (fun he => h.f_ch hf (he ▸ hc)) (fun he => h.ch_v hf he hc)), fun x hx => ?_, fun x hx y hy => ?_, fun x hx y hy => ?_⟩
  · obtain ⟨f', hf', ⟨he, rfl⟩ | ⟨he, rfl⟩⟩ := mem_updF hx
    · obtain rfl := h.hg f' hf' f hf he
      exact hF
    · exact (h.hf x hf').same (hk _ (blk_lt (h.hf x hf').hb) he (h.f_v hf' hf)) (fun k hv => hk k (hsz x hf' k hv) (fun e => h.f_v hf hf' (e ▸ hv)) (fun e => h.hv f hf x hf' (Ne.symm he) k e hv))
  · intro hxy
    obtain ⟨f1, hf1, ⟨e1, rfl⟩ | ⟨e1, rfl⟩⟩ := mem_updF hx <;> obtain ⟨f2, hf2, ⟨e2, rfl⟩ | ⟨e2, rfl⟩⟩ := mem_updF hy
    · rw [h.hg f1 hf1 f2 hf2 (e1.trans e2.symm)]
    · exact absurd (hxy.symm.trans e1) e2
    · exact absurd (hxy.trans e2) e1
    · exact h.hg _ hf1 _ hf2 hxy
  · intro hxy k hk1
    obtain ⟨f1, hf1, ⟨e1, rfl⟩ | ⟨e1, rfl⟩⟩ := mem_updF hx <;> obtain ⟨f2, hf2, ⟨e2, rfl⟩ | ⟨e2, rfl⟩⟩ := mem_updF hy
    · exact absurd (e1.trans e2.symm) hxy
    · simp only at hk1
      rcases hat with hat | hat | ⟨b, hat, hb⟩
      · rw [hat] at hk1
        exact h.hv f hf _ hf2 (Ne.symm e2) k hk1
      · rw [hat] at hk1; cases hk1
      · rw [hat] at hk1
        injection hk1 with hk1
        subst hk1
        intro he
        have := hsz _ hf2 _ he
        omega
    · simp only
      intro he
      rcases hat with hat | hat | ⟨b, hat, hb⟩
      · rw [hat] at he
        exact h.hv _ hf1 f hf e1 k hk1 he
      · rw [hat] at he; cases he
      · rw [hat] at he
        injection he with he
        subst he
        have := hsz _ hf1 _ hk1
        omega
    · exact h.hv _ hf1 _ hf2 hxy k hk1
/-- A new file without bytes. -/
theorem DiskAt.add : DiskAt (w.alloc (.cells #[.slice none 0 0, .int .i64 0] 62)) { d with fs := d.fs ++ [⟨w.heap.size, .slice none 0 0, [], 0⟩] } := by
  have hb := h.below (below_alloc (Below.refl _ _) (.cells #[.slice none 0 0, .int .i64 0] 62))
  have hlt : ∀ f ∈ d.fs, f.g < w.heap.size := fun f hf => blk_lt (h.hf f hf).hb
  refine ⟨hb.hd, hb.hm, hb.hs, hb.hne, hb.hc, fun x hx => ?_, fun x hx y hy hxy => ?_, fun x hx y hy hxy k hk => ?_⟩
  · rcases List.mem_append.1 hx with hx | hx
    · exact hb.hf x hx
    · obtain rfl := List.mem_singleton.1 hx
      exact ⟨blk_new w _, Kd.R_nil _ _ _ _ _⟩
  · rcases List.mem_append.1 hx with hx | hx <;> rcases List.mem_append.1 hy with hy | hy
    · exact h.hg x hx y hy hxy
    · obtain rfl := List.mem_singleton.1 hy
      have := hlt x hx
      simp only at hxy
      omega
    · obtain rfl := List.mem_singleton.1 hx
      have := hlt y hy
      simp only at hxy
      omega
    · rw [List.mem_singleton.1 hx, List.mem_singleton.1 hy]
  · rcases List.mem_append.1 hx with hx | hx <;> rcases List.mem_append.1 hy with hy | hy
    · exact h.hv x hx y hy hxy k hk
    · obtain rfl := List.mem_singleton.1 hy
      simp [Value.ownBlock]
    · obtain rfl := List.mem_singleton.1 hx
      simp [Value.ownBlock] at hk
    · rw [List.mem_singleton.1 hx, List.mem_singleton.1 hy] at hxy
      exact absurd rfl hxy
end
end Go.Proofs.Ytoninmgglcepmaa.Dk
