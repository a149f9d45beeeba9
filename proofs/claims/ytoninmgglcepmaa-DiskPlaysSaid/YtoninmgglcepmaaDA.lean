/- A disk in memory: what its blocks hold, and what stays behind a store. -/
import Derived.Test.YtoninmgglcepmaaMp
import Derived.Test.YtoninmgglcepmaaR
import Derived.Test.YtoninmgglcepmaaWMore
import Derived.Test.YtoninmgglcepmaaProg
import Derived.StillTailTactics
namespace Go.Proofs.Ytoninmgglcepmaa.Dk
open Go.RowKit Go.ChangeMaps Go.Proofs.YtoninmgglcepmaaW.PrintWords Go.Proofs.YtoninmgglcepmaaW.PrintLast Go.Proofs.YtoninmgglcepmaaW.PrintMore Mp
set_option linter.unusedVariables false
set_option linter.unusedSimpArgs false
/-- What a call keeps: all but the blocks of S and what is new since; the outside is the same. -/
structure Kept (w W : World) (S : Nat → Prop) : Prop where
  size : w.heap.size ≤ W.heap.size
  block : ∀ i, i < w.heap.size → ¬ S i → W.heap[i]? = w.heap[i]?
  os : W.os = w.os
  tape : W.tape = w.tape
  output : W.output = w.output
section
variable {w W W2 : World} {S S2 S' : Nat → Prop}
theorem Kept.refl (w : World) (S : Nat → Prop) : Kept w w S := ⟨Nat.le_refl _, fun _ _ _ => rfl, rfl, rfl, rfl⟩
theorem Kept.of_below (h : Below w.heap.size w W) (S : Nat → Prop) : Kept w W S := ⟨h.size, fun i hi _ => h.block i hi, h.os, h.tape, h.output⟩
theorem Kept.mono (h : Kept w W S) (hs : ∀ k, S k → S' k) : Kept w W S' := ⟨h.1, fun i hi hn => h.2 i hi (fun hk => hn (hs i hk)), h.os, h.tape, h.output⟩
theorem Kept.then_ (h : Kept w W S) (k : Kept W W2 S2) (hs : ∀ k, S2 k → S k ∨ w.heap.size ≤ k) : Kept w W2 S :=
  ⟨Nat.le_trans h.1 k.1, fun i hi hn => (k.2 i (Nat.lt_of_lt_of_le hi h.1) (fun h2 => (hs i h2).elim hn (fun h3 => by omega))).trans (h.2 i hi hn), k.os.trans h.os, k.tape.trans h.tape, k.output.trans h.output⟩
theorem Kept.of_grown {row : Option Nat} (hg : W.grownBy W2 row) (h : Kept w W S) (hr : ∀ k, row = some k → S k ∨ w.heap.size ≤ k) : Kept w W2 S :=
  h.then_ (S2 := fun k => row = some k) ⟨hg.size, fun i hi hn => hg.block i hi (fun he => hn he.symm), hg.os, hg.tape, hg.output⟩ hr
theorem Kept.below (h : Kept w W S) (hb : Below W.heap.size W W2) : Kept w W2 S := h.then_ (Kept.of_below hb (fun _ => False)) (fun _ hk => hk.elim)
theorem Kept.alloc (h : Kept w W S) (o : Obj) : Kept w (W.alloc o) S := h.below (below_alloc (Below.refl _ _) o)
theorem Kept.drew (h : Kept w W S) : Kept w W.drew S := h.below (below_drew (Below.refl _ _))
theorem Kept.toBelow (h : Kept w W S) (hs : ∀ k, S k → w.heap.size ≤ k) : Below w.heap.size w W := ⟨h.os, h.tape, h.output, h.size, fun k hk => h.block k hk (fun hS => by have := hs k hS; omega)⟩
end
/-- A file: its block, its row, what the row holds, how many bytes are safe. -/
structure FS where
  g : Nat
  v : Value
  bs : List Int
  safe : Int
/-- A change of the directory. -/
structure Chg where
  kind : Int
  name : ByteArray
  dst : ByteArray
  f : Option Nat
structure DSt where
  gd : Nat
  bd : Nat
  bs : Nat
  vch : Value
  quota : Int
  dir : List (ByteArray × Nat)
  safe : List (ByteArray × Nat)
  chg : List Chg
  fs : List FS
def pv (f : Option Nat) : Value := .pointer (f.map fun g => ⟨g, 0, none⟩)
def ptrs (l : List (ByteArray × Nat)) : List (ByteArray × Value) := l.map fun p => (p.1, pv (some p.2))
def kptr : Kd (Option Nat) := Kd.scalar pv (fun _ => rfl)
def kC : Kd Chg := Kd.iso (Kd.pair (Kd.int .i64) (Kd.pair Kd.string (Kd.pair Kd.string kptr))) (fun x : Chg => (x.kind, x.name, x.dst, x.f))
theorem kC_E : kC.E = [] := rfl
theorem kC_open {w : World} {x : Chg} {cs : List Value} (h : kC.K w x cs) : cs = [.int .i64 x.kind, .string x.name, .string x.dst, pv x.f] := by
  obtain ⟨c1, c2, rfl, h1, c3, c4, rfl, h2, c5, c6, rfl, h3, h4⟩ := h
  cases h1; cases h2; cases h3; cases h4
  rfl
theorem kC_mkM (w : World) (base : Nat) (ok : Nat → Prop) (x : Chg) : kC.M w base ok x [.int .i64 x.kind, .string x.name, .string x.dst, pv x.f] :=
  ⟨[.int .i64 x.kind], [.string x.name, .string x.dst, pv x.f], rfl, rfl, ⟨[.string x.name], [.string x.dst, pv x.f], rfl, rfl, ⟨[.string x.dst], [pv x.f], rfl, rfl, rfl⟩⟩⟩
/-- A file's blocks. -/
structure FileAt (w : World) (f : FS) : Prop where
  hb : w.heap[f.g]? = some (.cells #[f.v, .int .i64 f.safe] 62 (0, 0))
  hr : Kd.R (Kd.int .u8) 5 w 0 (fun _ => True) f.v f.bs
structure DiskAt (w : World) (d : DSt) : Prop where
  hd : w.heap[d.gd]? = some (.cells #[.map (some d.bd), .map (some d.bs), d.vch, .int .i64 d.quota] 59 (0, 0))
  hm : MapB w d.bd (ptrs d.dir)
  hs : MapB w d.bs (ptrs d.safe)
  hne : d.bd ≠ d.bs
  hc : kC.R 66 w 0 (fun _ => True) d.vch d.chg
  hf : ∀ f ∈ d.fs, FileAt w f
  hg : ∀ f ∈ d.fs, ∀ f' ∈ d.fs, f.g = f'.g → f = f'
  hv : ∀ f ∈ d.fs, ∀ f' ∈ d.fs, f.g ≠ f'.g → ∀ k, f.v.ownBlock = some k → f'.v.ownBlock ≠ some k
def Foot (d : DSt) (k : Nat) : Prop := k = d.gd ∨ k = d.bd ∨ k = d.bs ∨ d.vch.ownBlock = some k ∨ ∃ f ∈ d.fs, k = f.g ∨ f.v.ownBlock = some k
theorem mb_same {w w' : World} {b : Nat} {l : List (ByteArray × Value)} (h : MapB w b l) (hb : w'.heap[b]? = w.heap[b]?) : MapB w' b l := by
  obtain ⟨es, clock, h1, h2⟩ := h
  exact ⟨es, clock, hb.trans h1, h2⟩
theorem mb_ex {w : World} {b : Nat} {l : List (ByteArray × Value)} (h : MapB w b l) : ∃ es clock, w.heap[b]? = some (.map es clock) := by
  obtain ⟨es, clock, h1, h2⟩ := h
  exact ⟨es, clock, h1⟩
theorem mb_lt {w : World} {b : Nat} {l : List (ByteArray × Value)} (h : MapB w b l) : b < w.heap.size := by
  obtain ⟨es, clock, h1⟩ := mb_ex h
  exact blk_lt h1
theorem row_same {α : Type} {d : Kd α} (hE : d.E = []) {e : Nat} {w w' : World} {v : Value} {xs : List α} (h : d.R e w 0 (fun _ => True) v xs) (hb : ∀ k, v.ownBlock = some k → w'.heap[k]? = w.heap[k]?) : d.R e w' 0 (fun _ => True) v xs :=
  Kd.R_mono (Kd.R_move (Kd.R_tight hE h) (fun k hk => hb k hk.symm)) (fun _ _ => trivial)
theorem FileAt.same {w w' : World} {f : FS} (h : FileAt w f) (hb : w'.heap[f.g]? = w.heap[f.g]?) (hv : ∀ k, f.v.ownBlock = some k → w'.heap[k]? = w.heap[k]?) : FileAt w' f :=
  ⟨hb.trans h.hb, row_same rfl h.hr hv⟩
theorem DiskAt.move {w w' : World} {d : DSt} (h : DiskAt w d) (hm : ∀ k, Foot d k → w'.heap[k]? = w.heap[k]?) : DiskAt w' d :=
  ⟨(hm _ (.inl rfl)).trans h.hd, mb_same h.hm (hm _ (.inr (.inl rfl))), mb_same h.hs (hm _ (.inr (.inr (.inl rfl)))), h.hne, row_same rfl h.hc (fun k hk => hm _ (.inr (.inr (.inr (.inl hk))))), fun f hf => (h.hf f hf).same (hm _ (.inr (.inr (.inr (.inr ⟨f, hf, .inl rfl⟩))))) (fun k hk => hm _ (.inr (.inr (.inr (.inr ⟨f, hf, .inr hk⟩))))), h.hg, h.hv⟩
/-- What a foot's block holds. -/
theorem DiskAt.foot {w : World} {d : DSt} (h : DiskAt w d) {k : Nat} (hk : Foot d k) : k < w.heap.size := by
  rcases hk with rfl | rfl | rfl | hk | ⟨f, hf, rfl | hk⟩
  · exact blk_lt h.hd
  · exact mb_lt h.hm
  · exact mb_lt h.hs
  · exact Kd.R_lt h.hc k hk
  · exact blk_lt (h.hf f hf).hb
  · exact Kd.R_lt (h.hf f hf).hr k hk
theorem DiskAt.below {w w' : World} {d : DSt} (h : DiskAt w d) (hb : Below w.heap.size w w') : DiskAt w' d := h.move fun k hk => hb.block k (h.foot hk)
theorem DiskAt.drew {w : World} {d : DSt} (h : DiskAt w d) : DiskAt w.drew d := h.move fun _ _ => rfl
/-- Another block is written. -/
theorem DiskAt.off {w w' : World} {d : DSt} (h : DiskAt w d) {row : Option Nat} (hg : w.grownBy w' row) (hn : ∀ k, row = some k → ¬ Foot d k) : DiskAt w' d :=
  h.move fun k hk => hg.block k (h.foot hk) (fun he => hn k he.symm hk)
section
variable {w : World} {d : DSt} (h : DiskAt w d)
include h
theorem DiskAt.ne_map {k : Nat} {cs : Array Value} {t : TypeId} {fr : Nat × Nat} (hk : w.heap[k]? = some (.cells cs t fr)) : k ≠ d.bd ∧ k ≠ d.bs := by
  obtain ⟨_, _, h1⟩ := mb_ex h.hm
  obtain ⟨_, _, h2⟩ := mb_ex h.hs
  refine ⟨?_, ?_⟩
  · rintro rfl; rw [hk] at h1; cases h1
  · rintro rfl; rw [hk] at h2; cases h2
theorem DiskAt.ch_typed {k : Nat} (hk : d.vch.ownBlock = some k) : ∃ cs, w.heap[k]? = some (.cells cs 66 (0, 0)) := Kd.R_typed h.hc k hk
theorem DiskAt.f_typed {f : FS} (hf : f ∈ d.fs) {k : Nat} (hk : f.v.ownBlock = some k) : ∃ cs, w.heap[k]? = some (.cells cs 5 (0, 0)) := Kd.R_typed (h.hf f hf).hr k hk
end
end Go.Proofs.Ytoninmgglcepmaa.Dk

namespace Go.Proofs.Ytoninmgglcepmaa.Dk
open Go.RowKit Go.ChangeMaps Go.Proofs.YtoninmgglcepmaaW.PrintWords Go.Proofs.YtoninmgglcepmaaW.PrintLast Go.Proofs.YtoninmgglcepmaaW.PrintMore Mp
set_option linter.unusedVariables false
set_option linter.unusedSimpArgs false
theorem grown_set {w w1 : World} (h : Below w.heap.size w w1) (b j : Nat) (v : Value) : w.grownBy (w1.setCell ⟨b, j, none⟩ v) (some b) :=
  ⟨h.os, h.tape, h.output, by have := h.size; simpa [World.setCell] using this, fun k hk hne => (Below.heap_setCell _ _ _ _ (fun e => hne (by rw [e]))).trans (h.block k hk)⟩
theorem grown_then {w w1 w2 : World} {r : Option Nat} (h : w.grownBy w1 r) (k : w1.grownBy w2 r) : w.grownBy w2 r :=
  ⟨k.os.trans h.os, k.tape.trans h.tape, k.output.trans h.output, Nat.le_trans h.size k.size, fun i hi hn => (k.block i (Nat.lt_of_lt_of_le hi h.size) hn).trans (h.block i hi hn)⟩
theorem grown_block {w : World} {b : Nat} {o : Obj} : w.grownBy (setBlock w b o) (some b) :=
  ⟨rfl, rfl, rfl, by simp [setBlock], fun i _ hn => by
    simp only [setBlock]
    exact Array.getElem?_setIfInBounds_ne (fun he => hn (by rw [he]))⟩
section
variable {w w' : World} {d : DSt} (h : DiskAt w d)
include h
theorem DiskAt.gd_ch : d.vch.ownBlock ≠ some d.gd := fun he => by
  obtain ⟨cs, hc⟩ := h.ch_typed he
  exact blk_ne h.hd hc (by decide) rfl
theorem DiskAt.gd_f {f : FS} (hf : f ∈ d.fs) : f.g ≠ d.gd := (blk_ne h.hd (h.hf f hf).hb (by decide)).symm
theorem DiskAt.gd_v {f : FS} (hf : f ∈ d.fs) : f.v.ownBlock ≠ some d.gd := fun he => by
  obtain ⟨cs, hc⟩ := h.f_typed hf he
  exact blk_ne h.hd hc (by decide) rfl
theorem DiskAt.f_ch {f : FS} (hf : f ∈ d.fs) : d.vch.ownBlock ≠ some f.g := fun he => by
  obtain ⟨cs, hc⟩ := h.ch_typed he
  exact blk_ne (h.hf f hf).hb hc (by decide) rfl
theorem DiskAt.f_v {f f' : FS} (hf : f ∈ d.fs) (hf' : f' ∈ d.fs) : f'.v.ownBlock ≠ some f.g := fun he => by
  obtain ⟨cs, hc⟩ := h.f_typed hf' he
  exact blk_ne (h.hf f hf).hb hc (by decide) rfl
theorem DiskAt.ch_v {f : FS} (hf : f ∈ d.fs) {k : Nat} (hk : f.v.ownBlock = some k) : d.vch.ownBlock ≠ some k := fun he => by
  obtain ⟨cs, hc⟩ := h.ch_typed he
  obtain ⟨cs', hc'⟩ := h.f_typed hf hk
  exact blk_ne hc hc' (by decide) rfl
/-- A block that none of the disk's maps is. -/
theorem DiskAt.map_ch {k : Nat} (hk : d.vch.ownBlock = some k) : k ≠ d.bd ∧ k ≠ d.bs := by
  obtain ⟨cs, hc⟩ := h.ch_typed hk
  exact h.ne_map hc
theorem DiskAt.map_f {f : FS} (hf : f ∈ d.fs) : f.g ≠ d.bd ∧ f.g ≠ d.bs := h.ne_map (h.hf f hf).hb
theorem DiskAt.map_v {f : FS} (hf : f ∈ d.fs) {k : Nat} (hk : f.v.ownBlock = some k) : k ≠ d.bd ∧ k ≠ d.bs := by
  obtain ⟨cs, hc⟩ := h.f_typed hf hk
  exact h.ne_map hc
/-- The quota is set. -/
theorem DiskAt.put_quota (q : Int) : DiskAt (w.setCell ⟨d.gd, 3, none⟩ (.int .i64 q)) { d with quota := q } := by
  have hg := grown_set (Below.refl w.heap.size w) d.gd 3 (.int .i64 q)
  have hk : ∀ k, k < w.heap.size → k ≠ d.gd → (w.setCell ⟨d.gd, 3, none⟩ (.int .i64 q)).heap[k]? = w.heap[k]? := fun k h1 h2 => hg.block k h1 (fun he => h2 (by injection he))
  refine ⟨blk_put h.hd 3 _ rfl, mb_same h.hm (hk _ (mb_lt h.hm) (h.ne_map h.hd).1.symm), mb_same h.hs (hk _ (mb_lt h.hs) (h.ne_map h.hd).2.symm), h.hne, row_same rfl h.hc (fun k hc => hk k (Kd.R_lt h.hc k hc) (fun he => h.gd_ch (he ▸ hc))), fun f hf => (h.hf f hf).same (hk _ (blk_lt (h.hf f hf).hb) (h.gd_f hf)) (fun k hv => hk k (Kd.R_lt (h.hf f hf).hr k hv) (fun he => h.gd_v hf (he ▸ hv))), h.hg, h.hv⟩
/-- The directory's map is another block, or holds something else. -/
theorem DiskAt.put_dir {dir : List (ByteArray × Nat)} (hg : w.grownBy w' (some d.bd)) (hm : MapB w' d.bd (ptrs dir)) : DiskAt w' { d with dir := dir } := by
  have hk : ∀ k, k < w.heap.size → k ≠ d.bd → w'.heap[k]? = w.heap[k]? := fun k h1 h2 => hg.block k h1 (fun he => h2 (by injection he))
  exact ⟨(hk _ (blk_lt h.hd) (h.ne_map h.hd).1).trans h.hd, hm, mb_same h.hs (hk _ (mb_lt h.hs) (Ne.symm h.hne)), h.hne, row_same rfl h.hc (fun k hc => hk k (Kd.R_lt h.hc k hc) (h.map_ch hc).1), fun f hf => (h.hf f hf).same (hk _ (blk_lt (h.hf f hf).hb) (h.map_f hf).1) (fun k hv => hk k (Kd.R_lt (h.hf f hf).hr k hv) (h.map_v hf hv).1), h.hg, h.hv⟩
/-- Fields 0, 1, 2 of the disk's block are set: another map (one that is no block of the disk), other changes. -/
theorem DiskAt.put_dirmap {nb : Nat} {dir : List (ByteArray × Nat)} (hm : MapB w nb (ptrs dir)) (hn : nb ≠ d.bs) : DiskAt (w.setCell ⟨d.gd, 0, none⟩ (.map (some nb))) { d with bd := nb, dir := dir } := by
  have hg := grown_set (Below.refl w.heap.size w) d.gd 0 (.map (some nb))
  have hk : ∀ k, k < w.heap.size → k ≠ d.gd → (w.setCell ⟨d.gd, 0, none⟩ (.map (some nb))).heap[k]? = w.heap[k]? := fun k h1 h2 => hg.block k h1 (fun he => h2 (by injection he))
  have hng : nb ≠ d.gd := by
    rintro rfl
    obtain ⟨_, _, h1⟩ := mb_ex hm
    rw [h.hd] at h1
    cases h1
  exact ⟨blk_put h.hd 0 _ rfl, mb_same hm (hk _ (mb_lt hm) hng), mb_same h.hs (hk _ (mb_lt h.hs) (h.ne_map h.hd).2.symm), hn, row_same rfl h.hc (fun k hc => hk k (Kd.R_lt h.hc k hc) (fun he => h.gd_ch (he ▸ hc))), fun f hf => (h.hf f hf).same (hk _ (blk_lt (h.hf f hf).hb) (h.gd_f hf)) (fun k hv => hk k (Kd.R_lt (h.hf f hf).hr k hv) (fun he => h.gd_v hf (he ▸ hv))), h.hg, h.hv⟩
theorem DiskAt.put_safemap {nb : Nat} {l : List (ByteArray × Nat)} (hm : MapB w nb (ptrs l)) (hn : nb ≠ d.bd) : DiskAt (w.setCell ⟨d.gd, 1, none⟩ (.map (some nb))) { d with bs := nb, safe := l } := by
  have hg := grown_set (Below.refl w.heap.size w) d.gd 1 (.map (some nb))
  have hk : ∀ k, k < w.heap.size → k ≠ d.gd → (w.setCell ⟨d.gd, 1, none⟩ (.map (some nb))).heap[k]? = w.heap[k]? := fun k h1 h2 => hg.block k h1 (fun he => h2 (by injection he))
  have hng : nb ≠ d.gd := by
    rintro rfl
    obtain ⟨_, _, h1⟩ := mb_ex hm
    rw [h.hd] at h1
    cases h1
  exact ⟨blk_put h.hd 1 _ rfl, mb_same h.hm (hk _ (mb_lt h.hm) (h.ne_map h.hd).1.symm), mb_same hm (hk _ (mb_lt hm) hng), Ne.symm hn, row_same rfl h.hc (fun k hc => hk k (Kd.R_lt h.hc k hc) (fun he => h.gd_ch (he ▸ hc))), fun f hf => (h.hf f hf).same (hk _ (blk_lt (h.hf f hf).hb) (h.gd_f hf)) (fun k hv => hk k (Kd.R_lt (h.hf f hf).hr k hv) (fun he => h.gd_v hf (he ▸ hv))), h.hg, h.hv⟩
theorem DiskAt.put_chg0 : DiskAt (w.setCell ⟨d.gd, 2, none⟩ (.slice none 0 0)) { d with vch := .slice none 0 0, chg := [] } := by
  have hg := grown_set (Below.refl w.heap.size w) d.gd 2 (.slice none 0 0)
  have hk : ∀ k, k < w.heap.size → k ≠ d.gd → (w.setCell ⟨d.gd, 2, none⟩ (.slice none 0 0)).heap[k]? = w.heap[k]? := fun k h1 h2 => hg.block k h1 (fun he => h2 (by injection he))
  exact ⟨blk_put h.hd 2 _ rfl, mb_same h.hm (hk _ (mb_lt h.hm) (h.ne_map h.hd).1.symm), mb_same h.hs (hk _ (mb_lt h.hs) (h.ne_map h.hd).2.symm), h.hne, Kd.R_nil _ _ _ _ _, fun f hf => (h.hf f hf).same (hk _ (blk_lt (h.hf f hf).hb) (h.gd_f hf)) (fun k hv => hk k (Kd.R_lt (h.hf f hf).hr k hv) (fun he => h.gd_v hf (he ▸ hv))), h.hg, h.hv⟩
/-- The changes' row has grown (its block written, or a new one), and is laid into field 2. -/
theorem DiskAt.put_chg {v1 : Value} {l : List Chg} (hr : kC.R 66 w' 0 (fun _ => True) v1 l) (hg : w.grownBy w' d.vch.ownBlock) (hat : v1.ownBlock = d.vch.ownBlock ∨ ∃ b, v1.ownBlock = some b ∧ w.heap.size ≤ b) : DiskAt (w'.setCell ⟨d.gd, 2, none⟩ v1) { d with vch := v1, chg := l } := by
  have hg2 := grown_set (Below.refl w'.heap.size w') d.gd 2 v1
  have hk : ∀ k, k < w.heap.size → k ≠ d.gd → d.vch.ownBlock ≠ some k → (w'.setCell ⟨d.gd, 2, none⟩ v1).heap[k]? = w.heap[k]? := fun k h1 h2 h3 => (hg2.block k (Nat.lt_of_lt_of_le h1 hg.size) (fun he => h2 (by injection he))).trans (hg.block k h1 (fun he => h3 he.symm))
  have hd1 := blk_grown h.hd hg (fun he => h.gd_ch he.symm)
  refine ⟨blk_put hd1 2 _ rfl, mb_same h.hm (hk _ (mb_lt h.hm) (h.ne_map h.hd).1.symm (fun he => (h.map_ch he).1 rfl)), mb_same h.hs (hk _ (mb_lt h.hs) (h.ne_map h.hd).2.symm (fun he => (h.map_ch he).2 rfl)), h.hne, row_same rfl hr (fun k hc => hg2.block k (Kd.R_lt hr k hc) (fun he => ?_)), fun f hf => (h.hf f hf).same (hk _ (blk_lt (h.hf f hf).hb) (h.gd_f hf) (h.f_ch hf)) (fun k hv => hk k (Kd.R_lt (h.hf f hf).hr k hv) (fun he => h.gd_v hf (he ▸ hv)) (h.ch_v hf hv)), h.hg, h.hv⟩
  injection he with he
  subst he
  obtain ⟨cs, hcs⟩ := Kd.R_typed hr _ hc
  exact blk_ne hd1 hcs (by decide) rfl
end
/-- One file is turned. -/
def updF (fs : List FS) (g : Nat) (u : FS → FS) : List FS := fs.map fun f => if f.g = g then u f else f
theorem mem_updF {fs : List FS} {g : Nat} {u : FS → FS} {x : FS} (h : x ∈ updF fs g u) : ∃ f ∈ fs, (f.g = g ∧ x = u f) ∨ (f.g ≠ g ∧ x = f) := by
  obtain ⟨f, hf, rfl⟩ := List.mem_map.1 h
  by_cases hc : f.g = g
  · exact ⟨f, hf, .inl ⟨hc, by rw [if_pos hc]⟩⟩
  · exact ⟨f, hf, .inr ⟨hc, by rw [if_neg hc]⟩⟩
section
variable {w w' : World} {d : DSt} (h : DiskAt w d)
include h
/-- A file's row has been written (or is a new one), and lies in the file's block: what is left to show of the file alone. -/
theorem DiskAt.upd {f : FS} (hf : f ∈ d.fs) {v1 : Value} {bs1 : List Int} {s1 : Int} (hk : ∀ k, k < w.heap.size → k ≠ f.g → f.v.ownBlock ≠ some k → w'.heap[k]? = w.heap[k]?)
    (hF : FileAt w' ⟨f.g, v1, bs1, s1⟩) (hat : v1.ownBlock = f.v.ownBlock ∨ v1.ownBlock = none ∨ ∃ b, v1.ownBlock = some b ∧ w.heap.size ≤ b) :
    DiskAt w' { d with fs := updF d.fs f.g fun x => { x with v := v1, bs := bs1, safe := s1 } } := by
  have hsz : ∀ f' ∈ d.fs, ∀ k, f'.v.ownBlock = some k → k < w.heap.size := fun f' hf' k hk' => Kd.R_lt (h.hf f' hf').hr k hk'
  refine ⟨(hk _ (blk_lt h.hd) (h.gd_f hf).symm (h.gd_v hf)).trans h.hd, mb_same h.hm (hk _ (mb_lt h.hm) (h.map_f hf).1.symm (fun he => (h.map_v hf he).1 rfl)), mb_same h.hs (hk _ (mb_lt h.hs) (h.map_f hf).2.symm (fun he => (h.map_v hf he).2 rfl)), h.hne,
    row_same rfl h.hc (fun k hc => hk k (Kd.R_lt h.hc k hc) (fun he => h.f_ch hf (he ▸ hc)) (fun he => h.ch_v hf he hc)), fun x hx => ?_, fun x hx y hy => ?_, fun x hx y hy => ?_⟩
  · obtain ⟨f', hf', ⟨he, rfl⟩ | ⟨he, rfl⟩⟩ := mem_updF hx
    · obtain rfl := h.hg f' hf' f hf he
      exact hF
    · exact (h.hf x hf').same (hk _ (blk_lt (h.hf x hf').hb) he (h.f_v hf' hf)) (fun k hv => hk k (hsz x hf' k hv) (fun e => h.f_v hf hf' (e ▸ hv)) (fun e => h.hv f hf x hf' (Ne.symm he) k e hv))
  · intro hxy
    obtain ⟨f1, hf1, ⟨e1, rfl⟩ | ⟨e1, rfl⟩⟩ := mem_updF hx <;> obtain ⟨f2, hf2, ⟨e2, rfl⟩ | ⟨e2, rfl⟩⟩ := mem_updF hy
    · rw [h.hg f1 hf1 f2 hf2 (e1.trans e2.symm)]
    · exact absurd (hxy.symm.trans e1) e2
    · exact absurd (hxy.trans e2) e1
    · exact h.hg _ hf1 _ hf2 hxy
  · intro hxy k hk1
    obtain ⟨f1, hf1, ⟨e1, rfl⟩ | ⟨e1, rfl⟩⟩ := mem_updF hx <;> obtain ⟨f2, hf2, ⟨e2, rfl⟩ | ⟨e2, rfl⟩⟩ := mem_updF hy
    · exact absurd (e1.trans e2.symm) hxy
    · simp only at hk1
      rcases hat with hat | hat | ⟨b, hat, hb⟩
      · rw [hat] at hk1
        exact h.hv f hf _ hf2 (Ne.symm e2) k hk1
      · rw [hat] at hk1; cases hk1
      · rw [hat] at hk1
        injection hk1 with hk1
        subst hk1
        intro he
        have := hsz _ hf2 _ he
        omega
    · simp only
      intro he
      rcases hat with hat | hat | ⟨b, hat, hb⟩
      · rw [hat] at he
        exact h.hv _ hf1 f hf e1 k hk1 he
      · rw [hat] at he; cases he
      · rw [hat] at he
        injection he with he
        subst he
        have := hsz _ hf1 _ hk1
        omega
    · exact h.hv _ hf1 _ hf2 hxy k hk1
/-- A new file without bytes. -/
theorem DiskAt.add : DiskAt (w.alloc (.cells #[.slice none 0 0, .int .i64 0] 62)) { d with fs := d.fs ++ [⟨w.heap.size, .slice none 0 0, [], 0⟩] } := by
  have hb := h.below (below_alloc (Below.refl _ _) (.cells #[.slice none 0 0, .int .i64 0] 62))
  have hlt : ∀ f ∈ d.fs, f.g < w.heap.size := fun f hf => blk_lt (h.hf f hf).hb
  refine ⟨hb.hd, hb.hm, hb.hs, hb.hne, hb.hc, fun x hx => ?_, fun x hx y hy hxy => ?_, fun x hx y hy hxy k hk => ?_⟩
  · rcases List.mem_append.1 hx with hx | hx
    · exact hb.hf x hx
    · obtain rfl := List.mem_singleton.1 hx
      exact ⟨blk_new w _, Kd.R_nil _ _ _ _ _⟩
  · rcases List.mem_append.1 hx with hx | hx <;> rcases List.mem_append.1 hy with hy | hy
    · exact h.hg x hx y hy hxy
    · obtain rfl := List.mem_singleton.1 hy
      have := hlt x hx
      simp only at hxy
      omega
    · obtain rfl := List.mem_singleton.1 hx
      have := hlt y hy
      simp only at hxy
      omega
    · rw [List.mem_singleton.1 hx, List.mem_singleton.1 hy]
  · rcases List.mem_append.1 hx with hx | hx <;> rcases List.mem_append.1 hy with hy | hy
    · exact h.hv x hx y hy hxy k hk
    · obtain rfl := List.mem_singleton.1 hy
      simp [Value.ownBlock]
    · obtain rfl := List.mem_singleton.1 hx
      simp [Value.ownBlock] at hk
    · rw [List.mem_singleton.1 hx, List.mem_singleton.1 hy] at hxy
      exact absurd rfl hxy
end
end Go.Proofs.Ytoninmgglcepmaa.Dk

namespace Go.Proofs.Ytoninmgglcepmaa.Dk
open Reg Go.RowKit Go.ChangeMaps Go.Proofs.YtoninmgglcepmaaW.PrintWords Go.Proofs.YtoninmgglcepmaaW.PrintLast Go.Proofs.YtoninmgglcepmaaW.PrintMore Mp
attribute [local go_sem] max2_int min2_int max_two min_two max_three min_three max_four min_four
set_option linter.unusedVariables false
set_option linter.unusedSimpArgs false
def badName (s : ByteArray) : Bool := s.toList.isEmpty || decide (30 < (s.size : Int))
theorem bad1 (s : ByteArray) (w : World) : Calls Try.prog 53 #[.string s] w fun e w' => e = .returned (.bool (badName s)) ∧ w = w' := by
  have hb : ∀ t, badName s = t → Calls Try.prog 53 #[.string s] w fun e w' => e = .returned (.bool t) ∧ w = w' := by
    intro t ht
    unfold badName at ht
    by_cases h : s.toList = []
    · have h1 : s.toList.isEmpty = true := by rw [h]; rfl
      rw [h1, Bool.true_or] at ht
      subst ht
      go_enter Try.func53, Try.ntmps53
      go_wp2
      go_ret
      exact ⟨rfl, rfl⟩
    · have h1 : s.toList.isEmpty = false := by
        cases hs : s.toList with
        | nil => exact absurd hs h
        | cons a l => rfl
      rw [h1, Bool.false_or] at ht
      clear h
      go_enter Try.func53, Try.ntmps53
      go_wp2
      go_ret
      exact ⟨rfl, rfl⟩
  exact hb _ rfl
set_option maxHeartbeats 8000000 in
set_option maxRecDepth 100000 in
theorem index1 (A : Option Addr) (c : Nat) (l : List ByteArray) (w : World) (hr : Kd.C Kd.string w A l.length l) (hl : l.length ≤ 9223372036854775807) :
    Calls Try.prog 60 #[.slice A l.length c, .func (.func 53) #[] #[]] w fun e w' => ∃ r : Int, e = .returned (.int .i64 r) ∧ decide (0 ≤ r) = l.any badName ∧ w = w' := by
  have HR := Aside0.mk hr
  have HL := Aside0.mk hl
  clear hr hl
  go_enter Try.func60, Try.ntmps60
  go_wp2
  go_loopg [8] l.length (fun kq v8 w' => ∃ x : Nat, v8 = .int .i64 (x : Int) ∧ Aside0 (x ≤ l.length ∧ l.length - x ≤ kq) ∧ Aside0 (∀ s ∈ l.take x, badName s = false) ∧ w = w')
  case atStart => exact ⟨0, rfl, ⟨by omega, by omega⟩, ⟨by simp⟩, rfl⟩
  case round =>
    obtain ⟨x, rfl, HX, HA, rfl⟩ := hrel
    by_cases h : x < l.length
    · have hlt : decide ((x : Int) < (l.length : Int)) = true := decide_eq_true (by omega)
      have p1 : 0 ≤ (x : Int) := by omega
      have q1 : (x : Int) < (l.length : Int) := by omega
      obtain ⟨ad, e1, hx⟩ := Kd.at_string HR.out (x : Int) p1 q1
      cases e1
      have hg : rdOf ByteArray.empty l (x : Int) = l[x] := by simp [rdOf, List.getD_eq_getElem?_getD, List.getElem?_eq_getElem h]
      rw [hg, Int.toNat_natCast] at hx
      have hL := HL.out
      by_cases hs : badName l[x] = true
      · have hmem : l.any badName = true := List.any_eq_true.2 ⟨l[x], List.getElem_mem _, hs⟩
        have HM := Aside0.mk hmem
        generalize l[x] = s at *
        clear hg hmem hL
        have HBad := bad1 s
        rw [hs] at HBad
        go_wp2_with (go_at_call 53; refine (HBad _).mono ?_; rintro e w1 ⟨rfl, rfl⟩)
        go_ret
        refine ⟨_, rfl, ?_, rfl⟩
        rw [HM.out]
        exact decide_eq_true p1
      · have hs' : badName l[x] = false := by simpa using hs
        have hn : ∀ s ∈ l.take (x + 1), badName s = false := by
          intro s hs''
          rw [List.take_add_one, List.getElem?_eq_getElem h] at hs''
          rcases List.mem_append.1 hs'' with h1 | h1
          · exact HA.out s h1
          · rw [List.mem_singleton.1 h1]
            exact hs'
        have HN := Aside0.mk hn
        generalize l[x] = s at *
        clear hg hn hs
        have HBad := bad1 s
        rw [hs'] at HBad
        go_wp2_with (go_at_call 53; refine (HBad _).mono ?_; rintro e w1 ⟨rfl, rfl⟩)
        go_roundg (l.length - (x + 1))
        case measure => have := HX.out; omega
        case rel => exact ⟨x + 1, by first | rfl | (simp; done) | (simp [*]; done) | (congr 1; omega), ⟨by omega, by omega⟩, HN, rfl⟩
    · have hlt : decide ((x : Int) < (l.length : Int)) = false := decide_eq_false (by omega)
      go_wp2
      go_ret
      refine ⟨_, rfl, ?_, rfl⟩
      have h1 := HA.out
      rw [List.take_of_length_le (by omega)] at h1
      rw [show l.any badName = false from by rw [List.any_eq_false]; intro s hs; rw [h1 s hs]; decide]
      decide
theorem contains1 (A : Option Addr) (c : Nat) (l : List ByteArray) (w : World) (hr : Kd.C Kd.string w A l.length l) (hl : l.length ≤ 9223372036854775807) :
    Calls Try.prog 52 #[.slice A l.length c, .func (.func 53) #[] #[]] w fun e w' => e = .returned (.bool (l.any badName)) ∧ w = w' := by
  have HR := Aside0.mk hr
  have HL := Aside0.mk hl
  clear hr hl
  go_enter Try.func52, Try.ntmps52
  go_wp2_with (go_at_call 60; refine (index1 _ _ l _ HR.out HL.out).mono ?_; rintro e w1 ⟨r, rfl, hb, rfl⟩)
  go_ret
  exact ⟨rfl, rfl⟩
theorem names1 (s : ByteArray) (w : World) {t : Bool} (ht : badName s = !t) : Calls Try.prog 36 #[.slice (some ⟨w.heap.size, 0, none⟩) 1 1] (w.alloc (.cells #[.string s] 9)) fun e w' => e = .returned (.bool t) ∧ w.alloc (.cells #[.string s] 9) = w' := by
  have hc : Kd.C Kd.string (w.alloc (.cells #[.string s] 9)) (some ⟨w.heap.size, 0, none⟩) [s].length [s] := by
    refine ⟨rfl, by simp, fun _ => ⟨_, rfl, fun i p hp => ⟨[.string p], rfl, rfl, fun j u hu => ?_⟩⟩⟩
    match i, hp with
    | 0, hp =>
      obtain rfl : s = p := by simpa using hp
      match j, hu with
      | 0, hu =>
        obtain rfl : Value.string s = u := by simpa using hu
        exact (blk_cell (blk_new w (.cells #[.string s] 9)) 0)
  have hb : [s].any badName = !t := by simp [ht]
  have h52 := contains1 (some ⟨w.heap.size, 0, none⟩) 1 [s] (w.alloc (.cells #[.string s] 9)) hc (by simp)
  rw [hb] at h52
  have h52' : Calls Try.prog 52 #[.slice (some ⟨w.heap.size, 0, none⟩) 1 1, .func (.func 53) #[] #[]] (w.alloc (.cells #[.string s] 9)) fun e w' => e = .returned (.bool (!t)) ∧ w.alloc (.cells #[.string s] 9) = w' := h52
  clear hc hb h52
  generalize w.alloc (.cells #[.string s] 9) = w1 at *
  generalize w.heap.size = b at *
  cases t <;>
  · go_enter Try.func36, Try.ntmps36
    go_wp2_with (go_at_call 52; refine h52'.mono ?_; rintro e w2 ⟨rfl, rfl⟩)
    go_ret
    exact ⟨rfl, rfl⟩
theorem alloc_size (w : World) (o : Obj) : (w.alloc o).heap.size = w.heap.size + 1 := by
  show (w.heap.push o).size = _
  simp
theorem mapNew (w : World) : MapB (w.alloc (.map #[] 0)) w.heap.size (ptrs []) := ⟨#[], 0, blk_new w _, rfl, by simp, by simp⟩
def newW (w : World) : World := ((w.alloc (.map #[] 0)).alloc (.map #[] 0)).alloc (.cells #[.map (some w.heap.size), .map (some (w.heap.size + 1)), .slice none 0 0, .int .i64 (-1)] 59)
def newD (w : World) : DSt := ⟨w.heap.size + 2, w.heap.size, w.heap.size + 1, .slice none 0 0, -1, [], [], [], []⟩
theorem new_below (w : World) : Below w.heap.size w (newW w) := below_alloc (below_alloc (below_alloc (Below.refl _ _) _) _) _
theorem newAt (w : World) : DiskAt (newW w) (newD w) := by
  have h1 := mapNew w
  have h2 := mapNew (w.alloc (.map #[] 0))
  have s1 : (w.alloc (.map #[] 0)).heap.size = w.heap.size + 1 := alloc_size _ _
  have s2 : ((w.alloc (.map #[] 0)).alloc (.map #[] 0)).heap.size = w.heap.size + 2 := by rw [alloc_size, alloc_size]
  have b2 := below_alloc (Below.refl _ (w.alloc (.map #[] 0))) (.map #[] 0)
  have b3 := below_alloc (Below.refl _ ((w.alloc (.map #[] 0)).alloc (.map #[] 0))) (.cells #[.map (some w.heap.size), .map (some (w.heap.size + 1)), .slice none 0 0, .int .i64 (-1)] 59)
  have h3 := blk_new ((w.alloc (.map #[] 0)).alloc (.map #[] 0)) (.cells #[.map (some w.heap.size), .map (some (w.heap.size + 1)), .slice none 0 0, .int .i64 (-1)] 59)
  rw [s2] at h3
  rw [s1] at h2
  refine ⟨h3, ?_, ?_, ?_, Kd.R_nil _ _ _ _ _, by simp [newD], by simp [newD], by simp [newD]⟩
  · exact mb_same (mb_same h1 (b2.block _ (mb_lt h1))) (b3.block _ (Nat.lt_of_lt_of_le (mb_lt h1) b2.size))
  · exact mb_same h2 (b3.block _ (mb_lt h2))
  · show w.heap.size ≠ w.heap.size + 1
    omega
theorem newC (w : World) : Calls Try.prog 11 #[] w fun e w' => e = .returned (.pointer (some ⟨w.heap.size + 2, 0, none⟩)) ∧ w' = newW w := by
  have hmm := @run_makeMap Try.prog
  go_enter Try.func11, Try.ntmps11
  go_wp2
  go_ret
  exact ⟨rfl, rfl⟩
theorem getM_ptrs (l : List (ByteArray × Nat)) (s : ByteArray) : getM (ptrs l) s = (getM l s).map fun g => pv (some g) := by
  induction l with
  | nil => rfl
  | cons p l ih =>
    simp only [ptrs, List.map_cons, getM]
    split
    · rfl
    · exact ih
theorem look_dir {w : World} {b : Nat} {l : List (ByteArray × Nat)} (h : MapB w b (ptrs l)) (s : ByteArray) : (Instr.lookup 56 (.map (some b)) (.string s) false).run Try.prog w = .ok (pv (getM l s)) w := by
  have := run_look (P := Try.prog) h Try.underlying56 Try.underlying9 (z := .pointer none) (show (zeroValue 60).run Try.prog w = .ok (.pointer none) w from by kernel_rfl) s
  rw [this, getM_ptrs]
  cases getM l s <;> rfl
/-- What find comes to. -/
def findR (d : DSt) (s : ByteArray) : Option Nat × Int := if badName s = true then (none, 20) else match getM d.dir s with | none => (none, 25) | some g => (some g, 0)
theorem findC {w : World} {d : DSt} (h : DiskAt w d) (s : ByteArray) : Calls Try.prog 38 #[.pointer (some ⟨d.gd, 0, none⟩), .string s] w fun e w' => e = .returned (.tuple #[pv (findR d s).1, .int .i64 (findR d s).2]) ∧ Below w.heap.size w w' := by
  have hc0 := blk_cell h.hd 0
  have hlk := look_dir h.hm s
  replace hc0 : w.cell? ⟨d.gd, 0, none⟩ = some (.map (some d.bd)) := hc0
  unfold findR
  by_cases hb : badName s = true
  · rw [if_pos hb]
    have hn := names1 s w (t := false) (by rw [hb]; rfl)
    clear hb h
    generalize pv (getM d.dir s) = vf at hlk
    go_enter Try.func38, Try.ntmps38
    go_wp2_with (go_at_call 36; refine hn.mono ?_; rintro e w1 ⟨rfl, rfl⟩)
    go_ret2
    exact ⟨rfl, below_alloc (Below.refl _ _) _⟩
  · have hb' : badName s = false := by simpa using hb
    rw [if_neg hb]
    have hn := names1 s w (t := true) (by rw [hb']; rfl)
    clear hb hb' h
    cases hgm : getM d.dir s with
    | none =>
      rw [hgm] at hlk
      replace hlk : (Instr.lookup 56 (.map (some d.bd)) (.string s) false).run Try.prog w = .ok (.pointer none) w := hlk
      clear hgm
      go_enter Try.func38, Try.ntmps38
      go_wp2_with (go_at_call 36; refine hn.mono ?_; rintro e w1 ⟨rfl, rfl⟩)
      go_ret2
      exact ⟨rfl, below_alloc (Below.refl _ _) _⟩
    | some g =>
      rw [hgm] at hlk
      replace hlk : (Instr.lookup 56 (.map (some d.bd)) (.string s) false).run Try.prog w = .ok (.pointer (some ⟨g, 0, none⟩)) w := hlk
      clear hgm
      go_enter Try.func38, Try.ntmps38
      go_wp2_with (go_at_call 36; refine hn.mono ?_; rintro e w1 ⟨rfl, rfl⟩)
      go_ret2
      exact ⟨rfl, below_alloc (Below.refl _ _) _⟩
theorem quotaC {w : World} {d : DSt} (h : DiskAt w d) (q : Int) : Calls Try.prog 12 #[.pointer (some ⟨d.gd, 0, none⟩), .int .i64 q] w fun e w' => e = .returned (.tuple #[]) ∧ w' = w.setCell ⟨d.gd, 3, none⟩ (.int .i64 q) := by
  have hc3 := blk_cell h.hd 3
  have hf3 := blk_frozen h.hd 3
  replace hc3 : w.cell? ⟨d.gd, 3, none⟩ = some (.int .i64 d.quota) := hc3
  go_enter Try.func12, Try.ntmps12
  go_wp2
  go_end0
  exact ⟨rfl, rfl⟩
end Go.Proofs.Ytoninmgglcepmaa.Dk

namespace Go.Proofs.Ytoninmgglcepmaa.Dk
open Reg Go.RowKit Go.ChangeMaps Go.Proofs.YtoninmgglcepmaaW.PrintWords Go.Proofs.YtoninmgglcepmaaW.PrintLast Go.Proofs.YtoninmgglcepmaaW.PrintMore Mp
attribute [local go_sem] max2_int min2_int max_two min_two max_three min_three max_four min_four
set_option linter.unusedVariables false
set_option linter.unusedSimpArgs false
theorem ptrs_put (l : List (ByteArray × Nat)) (s : ByteArray) (g : Nat) : putM (ptrs l) s (pv (some g)) = ptrs (putM l s g) := by
  induction l with
  | nil => rfl
  | cons p l ih =>
    simp only [ptrs, List.map_cons, putM] at ih ⊢
    split
    · rfl
    · rw [List.map_cons, ih]
theorem ptrs_del (l : List (ByteArray × Nat)) (s : ByteArray) : delM (ptrs l) s = ptrs (delM l s) := by
  induction l with
  | nil => rfl
  | cons p l ih =>
    simp only [ptrs, List.map_cons, delM] at ih ⊢
    split
    · rfl
    · rw [List.map_cons, ih]
/-- A change done; none: it is none that may be. -/
def doM (l : List (ByteArray × Nat)) (c : Chg) : Option (List (ByteArray × Nat)) :=
  if c.kind = 0 then c.f.map (fun g => putM l c.name g)
  else if c.kind = 1 then (getM l c.name).map (fun g => putM (delM l c.name) c.dst g)
  else if c.kind = 2 then some (delM l c.name) else none
def chgO (c : Chg) : Obj := .cells #[.int .i64 c.kind, .string c.name, .string c.dst, pv c.f] 66
theorem grown_alloc_block {w : World} {b : Nat} {o o' : Obj} (hb : b < w.heap.size) : w.grownBy (setBlock (w.alloc o) b o') (some b) :=
  grown_then ((grown_of_below (below_alloc (Below.refl _ w) o) (some b))) grown_block
theorem mb_alloc {w : World} {b : Nat} {l : List (ByteArray × Value)} (h : MapB w b l) (o : Obj) : MapB (w.alloc o) b l := mb_same h ((below_alloc (Below.refl _ w) o).block _ (mb_lt h))
theorem doC {w : World} {b : Nat} {l l2 : List (ByteArray × Nat)} (h : MapB w b (ptrs l)) (c : Chg) (h2 : doM l c = some l2) :
    Calls Try.prog 41 #[.map (some b), .agg #[.int .i64 c.kind, .string c.name, .string c.dst, pv c.f]] w fun e w' => e = .returned (.tuple #[]) ∧ MapB w' b (ptrs l2) ∧ w.grownBy w' (some b) := by
  have h1 := mb_alloc h (chgO c)
  have hlt := mb_lt h
  obtain ⟨kind, name, dst, f⟩ := c
  unfold doM at h2
  by_cases c0 : kind = 0
  · subst c0
    rw [if_pos rfl] at h2
    obtain ⟨g, hg, h2⟩ := Option.map_eq_some_iff.1 h2
    simp only at hg
    subst hg
    obtain ⟨o, hput, hM⟩ := run_put (P := Try.prog) h1 Try.underlying56 Try.underlying9 name (pv (some g))
    rw [ptrs_put, h2] at hM
    have HM := Aside0.mk hM
    have HG := Aside0.mk (grown_alloc_block (o := chgO ⟨0, name, dst, some g⟩) (o' := o) hlt)
    clear h h1 hlt h2 hM
    unfold chgO pv at *
    dsimp only [Option.map] at *
    go_enter Try.func41, Try.ntmps41
    go_wp2
    go_end0
    exact ⟨rfl, HM.out, HG.out⟩
  rw [if_neg c0] at h2
  by_cases c1 : kind = 1
  · subst c1
    rw [if_pos rfl] at h2
    obtain ⟨g, hg, h2⟩ := Option.map_eq_some_iff.1 h2
    simp only at hg
    have hlk := look_dir h1 name
    rw [hg] at hlk
    replace hlk : (Instr.lookup 56 (.map (some b)) (.string name) false).run Try.prog (w.alloc (chgO ⟨1, name, dst, f⟩)) = .ok (.pointer (some ⟨g, 0, none⟩)) (w.alloc (chgO ⟨1, name, dst, f⟩)) := hlk
    obtain ⟨o1, hdel, hM1⟩ := run_del (P := Try.prog) h1 Try.underlying56 Try.underlying9 name 0
    rw [ptrs_del] at hM1
    obtain ⟨o2, hput, hM2⟩ := run_put (P := Try.prog) hM1 Try.underlying56 Try.underlying9 dst (.pointer (some ⟨g, 0, none⟩))
    replace hM2 : MapB _ b (putM (ptrs (delM l name)) dst (pv (some g))) := hM2
    rw [ptrs_put, h2] at hM2
    have HM := Aside0.mk hM2
    have HG := Aside0.mk (grown_then (grown_alloc_block (o := chgO ⟨1, name, dst, f⟩) (o' := o1) hlt) (grown_block (o := o2)))
    have hx0 := blk_new w (chgO ⟨1, name, dst, f⟩)
    have hxb : (setBlock (w.alloc (chgO ⟨1, name, dst, f⟩)) b o1).heap[w.heap.size]? = some (chgO ⟨1, name, dst, f⟩) := by
      rw [← hx0]
      exact (grown_block (w := w.alloc (chgO ⟨1, name, dst, f⟩)) (b := b) (o := o1)).block _ (by rw [alloc_size]; omega) (fun he => by injection he with he; omega)
    have hc2 := blk_cell hxb 2
    replace hc2 : (setBlock (w.alloc (chgO ⟨1, name, dst, f⟩)) b o1).cell? ⟨w.heap.size, 2, none⟩ = some (.string dst) := hc2
    clear h h1 hlt h2 hM1 hM2 hg c0 hx0 hxb
    unfold chgO pv at *
    go_enter Try.func41, Try.ntmps41
    go_wp2
    go_end0
    exact ⟨rfl, HM.out, HG.out⟩
  rw [if_neg c1] at h2
  by_cases c2 : kind = 2
  · subst c2
    rw [if_pos rfl] at h2
    obtain rfl := Option.some.inj h2
    obtain ⟨o1, hdel, hM1⟩ := run_del (P := Try.prog) h1 Try.underlying56 Try.underlying9 name 0
    rw [ptrs_del] at hM1
    have HM := Aside0.mk hM1
    have HG := Aside0.mk (grown_alloc_block (o := chgO ⟨2, name, dst, f⟩) (o' := o1) hlt)
    clear h h1 hlt h2 hM1 c0 c1
    unfold chgO pv at *
    go_enter Try.func41, Try.ntmps41
    go_wp2
    go_end0
    exact ⟨rfl, HM.out, HG.out⟩
  · rw [if_neg c2] at h2
    cases h2
end Go.Proofs.Ytoninmgglcepmaa.Dk
