/- A disk in memory: what its blocks hold, and what stays behind a store. -/
import Derived.Test.YtoninmgglcepmaaMp
import Derived.Test.YtoninmgglcepmaaR
import Derived.Test.YtoninmgglcepmaaWMore
import Derived.Test.YtoninmgglcepmaaProg
namespace Go.Proofs.Ytoninmgglcepmaa.Dk
open Go.RowKit Go.ChangeMaps Go.Proofs.YtoninmgglcepmaaW.PrintWords Go.Proofs.YtoninmgglcepmaaW.PrintLast Go.Proofs.YtoninmgglcepmaaW.PrintMore Mp
set_option linter.unusedVariables false
set_option linter.unusedSimpArgs false
/-- What a call keeps: all but the blocks of S and what is new since; the outside is the same. -/
structure Kept (w W : World) (S : Nat → Prop) : Prop where
  size : w.heap.size ≤ W.heap.size
  block : ∀ i, i < w.heap.size → ¬ S i → W.heap[i]? = w.heap[i]?
  os : W.os = w.os
  tape : W.tape = w.tape
  output : W.output = w.output
section
variable {w W W2 : World} {S S2 S' : Nat → Prop}
theorem Kept.refl (w : World) (S : Nat → Prop) : Kept w w S := ⟨Nat.le_refl _, fun _ _ _ => rfl, rfl, rfl, rfl⟩
theorem Kept.of_below (h : Below w.heap.size w W) (S : Nat → Prop) : Kept w W S := ⟨h.size, fun i hi _ => h.block i hi, h.os, h.tape, h.output⟩
theorem Kept.mono (h : Kept w W S) (hs : ∀ k, S k → S' k) : Kept w W S' := ⟨h.1, fun i hi hn => h.2 i hi (fun hk => hn (hs i hk)), h.os, h.tape, h.output⟩
theorem Kept.then_ (h : Kept w W S) (k : Kept W W2 S2) (hs : ∀ k, S2 k → S k ∨ w.heap.size ≤ k) : Kept w W2 S :=
  ⟨Nat.le_trans h.1 k.1, fun i hi hn => (k.2 i (Nat.lt_of_lt_of_le hi h.1) (fun h2 => (hs i h2).elim hn (fun h3 => by omega))).trans (h.2 i hi hn), k.os.trans h.os, k.tape.trans h.tape, k.output.trans h.output⟩
theorem Kept.of_grown {row : Option Nat} (hg : W.grownBy W2 row) (h : Kept w W S) (hr : ∀ k, row = some k → S k ∨ w.heap.size ≤ k) : Kept w W2 S :=
  h.then_ (S2 := fun k => row = some k) ⟨hg.size, fun i hi hn => hg.block i hi (fun he => hn he.symm), hg.os, hg.tape, hg.output⟩ hr
theorem Kept.below (h : Kept w W S) (hb : Below W.heap.size W W2) : Kept w W2 S := h.then_ (Kept.of_below hb (fun _ => False)) (fun _ hk => hk.elim)
theorem Kept.alloc (h : Kept w W S) (o : Obj) : Kept w (W.alloc o) S := h.below (below_alloc (Below.refl _ _) o)
theorem Kept.drew (h : Kept w W S) : Kept w W.drew S := h.below (below_drew (Below.refl _ _))
theorem Kept.toBelow (h : Kept w W S) (hs : ∀ k, S k → w.heap.size ≤ k) : Below w.heap.size w W := ⟨h.os, h.tape, h.output, h.size, fun k hk => h.block k hk (fun hS => by have := hs k hS; omega)⟩
end
/-- A file: its block, its row, what the row holds, how many bytes are safe. -/
structure FS where
  g : Nat
  v : Value
  bs : List Int
  safe : Int
/-- A change of the directory. -/
structure Chg where
  kind : Int
  name : ByteArray
  dst : ByteArray
  f : Option Nat
structure DSt where
  gd : Nat
  bd : Nat
  bs : Nat
  vch : Value
  quota : Int
  dir : List (ByteArray × Nat)
  safe : List (ByteArray × Nat)
  chg : List Chg
  fs : List FS
def pv (f : Option Nat) : Value := .pointer (f.map fun g => ⟨g, 0, none⟩)
def ptrs (l : List (ByteArray × Nat)) : List (ByteArray × Value) := l.map fun p => (p.1, pv (some p.2))
def kptr : Kd (Option Nat) := Kd.scalar pv (fun _ => rfl)
def kC : Kd Chg := Kd.iso (Kd.pair (Kd.int .i64) (Kd.pair Kd.string (Kd.pair Kd.string kptr))) (fun x : Chg => (x.kind, x.name, x.dst, x.f))
theorem kC_E : kC.E = [] := rfl
theorem kC_open {w : World} {x : Chg} {cs : List Value} (h : kC.K w x cs) : cs = [.int .i64 x.kind, .string x.name, .string x.dst, pv x.f] := by
  obtain ⟨c1, c2, rfl, h1, c3, c4, rfl, h2, c5, c6, rfl, h3, h4⟩ := h
  cases h1; cases h2; cases h3; cases h4
  rfl
theorem kC_mkM (w : World) (base : Nat) (ok : Nat → Prop) (x : Chg) : kC.M w base ok x [.int .i64 x.kind, .string x.name, .string x.dst, pv x.f] :=
  ⟨[.int .i64 x.kind], [.string x.name, .string x.dst, pv x.f], rfl, rfl, ⟨[.string x.name], [.string x.dst, pv x.f], rfl, rfl, ⟨[.string x.dst], [pv x.f], rfl, rfl, rfl⟩⟩⟩
/-- A file's blocks. -/
structure FileAt (w : World) (f : FS) : Prop where
  hb : w.heap[f.g]? = some (.cells #[f.v, .int .i64 f.safe] 62 (0, 0))
  hr : Kd.R (Kd.int .u8) 5 w 0 (fun _ => True) f.v f.bs
structure DiskAt (w : World) (d : DSt) : Prop where
  hd : w.heap[d.gd]? = some (.cells #[.map (some d.bd), .map (some d.bs), d.vch, .int .i64 d.quota] 59 (0, 0))
  hm : MapB w d.bd (ptrs d.dir)
  hs : MapB w d.bs (ptrs d.safe)
  hne : d.bd ≠ d.bs
  hc : kC.R 66 w 0 (fun _ => True) d.vch d.chg
  hf : ∀ f ∈ d.fs, FileAt w f
  hg : ∀ f ∈ d.fs, ∀ f' ∈ d.fs, f.g = f'.g → f = f'
  hv : ∀ f ∈ d.fs, ∀ f' ∈ d.fs, f.g ≠ f'.g → ∀ k, f.v.ownBlock = some k → f'.v.ownBlock ≠ some k
def Foot (d : DSt) (k : Nat) : Prop := k = d.gd ∨ k = d.bd ∨ k = d.bs ∨ d.vch.ownBlock = some k ∨ ∃ f ∈ d.fs, k = f.g ∨ f.v.ownBlock = some k
theorem mb_same {w w' : World} {b : Nat} {l : List (ByteArray × Value)} (h : MapB w b l) (hb : w'.heap[b]? = w.heap[b]?) : MapB w' b l := by
  obtain ⟨es, clock, h1, h2⟩ := h
  exact ⟨es, clock, hb.trans h1, h2⟩
theorem mb_ex {w : World} {b : Nat} {l : List (ByteArray × Value)} (h : MapB w b l) : ∃ es clock, w.heap[b]? = some (.map es clock) := by
  obtain ⟨es, clock, h1, h2⟩ := h
  exact ⟨es, clock, h1⟩
theorem mb_lt {w : World} {b : Nat} {l : List (ByteArray × Value)} (h : MapB w b l) : b < w.heap.size := by
  obtain ⟨es, clock, h1⟩ := mb_ex h
  exact blk_lt h1
theorem row_same {α : Type} {d : Kd α} (hE : d.E = []) {e : Nat} {w w' : World} {v : Value} {xs : List α} (h : d.R e w 0 (fun _ => True) v xs) (hb : ∀ k, v.ownBlock = some k → w'.heap[k]? = w.heap[k]?) : d.R e w' 0 (fun _ => True) v xs :=
  Kd.R_mono (Kd.R_move (Kd.R_tight hE h) (fun k hk => hb k hk.symm)) (fun _ _ => trivial)
theorem FileAt.same {w w' : World} {f : FS} (h : FileAt w f) (hb : w'.heap[f.g]? = w.heap[f.g]?) (hv : ∀ k, f.v.ownBlock = some k → w'.heap[k]? = w.heap[k]?) : FileAt w' f :=
  ⟨hb.trans h.hb, row_same rfl h.hr hv⟩
theorem DiskAt.move {w w' : World} {d : DSt} (h : DiskAt w d) (hm : ∀ k, Foot d k → w'.heap[k]? = w.heap[k]?) : DiskAt w' d :=
  ⟨(hm _ (.inl rfl)).trans h.hd, mb_same h.hm (hm _ (.inr (.inl rfl))), mb_same h.hs (hm _ (.inr (.inr (.inl rfl)))), h.hne, row_same rfl h.hc (fun k hk => hm _ (.inr (.inr (.inr (.inl hk))))), fun f hf => (h.hf f hf).same (hm _ (.inr (.inr (.inr (.inr ⟨f, hf, .inl rfl⟩))))) (fun k hk => hm _ (.inr (.inr (.inr (.inr ⟨f, hf, .inr hk⟩))))), h.hg, h.hv⟩
/-- What a foot's block holds. -/
theorem DiskAt.foot {w : World} {d : DSt} (h : DiskAt w d) {k : Nat} (hk : Foot d k) : k < w.heap.size := by
  rcases hk with rfl | rfl | rfl | hk | ⟨f, hf, rfl | hk⟩
  · exact blk_lt h.hd
  · exact mb_lt h.hm
  · exact mb_lt h.hs
  · exact Kd.R_lt h.hc k hk
  · exact blk_lt (h.hf f hf).hb
  · exact Kd.R_lt (h.hf f hf).hr k hk
theorem DiskAt.below {w w' : World} {d : DSt} (h : DiskAt w d) (hb : Below w.heap.size w w') : DiskAt w' d := h.move fun k hk => hb.block k (h.foot hk)
theorem DiskAt.drew {w : World} {d : DSt} (h : DiskAt w d) : DiskAt w.drew d := h.move fun _ _ => rfl
/-- Another block is written. -/
theorem DiskAt.off {w w' : World} {d : DSt} (h : DiskAt w d) {row : Option Nat} (hg : w.grownBy w' row) (hn : ∀ k, row = some k → ¬ Foot d k) : DiskAt w' d :=
  h.move fun k hk => hg.block k (h.foot hk) (fun he => hn k he.symm hk)
section
variable {w : World} {d : DSt} (h : DiskAt w d)
include h
theorem DiskAt.ne_map {k : Nat} {cs : Array Value} {t : TypeId} {fr : Nat × Nat} (hk : w.heap[k]? = some (.cells cs t fr)) : k ≠ d.bd ∧ k ≠ d.bs := by
  obtain ⟨_, _, h1⟩ := mb_ex h.hm
  obtain ⟨_, _, h2⟩ := mb_ex h.hs
  refine ⟨?_, ?_⟩
  · rintro rfl; rw [hk] at h1; cases h1
  · rintro rfl; rw [hk] at h2; cases h2
theorem DiskAt.ch_typed {k : Nat} (hk : d.vch.ownBlock = some k) : ∃ cs, w.heap[k]? = some (.cells cs 66 (0, 0)) := Kd.R_typed h.hc k hk
theorem DiskAt.f_typed {f : FS} (hf : f ∈ d.fs) {k : Nat} (hk : f.v.ownBlock = some k) : ∃ cs, w.heap[k]? = some (.cells cs 5 (0, 0)) := Kd.R_typed (h.hf f hf).hr k hk
end
end Go.Proofs.Ytoninmgglcepmaa.Dk
