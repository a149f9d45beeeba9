/- The document's disk in memory: what its blocks hold, what stays behind a store. -/
import Derived.Test.YtoninmgglcepmaaE1
import Derived.Test.YtoninmgglcepmaaD22
namespace Go.Proofs.Ytoninmgglcepmaa.Dk
open Go.ChangeMaps hiding rd
open RegD Go.RowKit Go.Proofs.YtoninmgglcepmaaW.PrintWords Go.Proofs.YtoninmgglcepmaaW.PrintLast Go.Proofs.YtoninmgglcepmaaW.PrintMore Mp QDiskPlays
set_option linter.unusedVariables false
set_option linter.unusedSimpArgs false
/-- A file of the document's: the header of its bytes, the bytes, how many are safe. -/
structure RF where
  A : Option Addr
  c : Nat
  bs : List Int
  safe : Int
def kH : Kd (Option Addr × Nat × Nat) := Kd.scalar (fun h => .slice h.1 h.2.1 h.2.2) (fun _ => rfl)
def kRF : Kd RF := Kd.iso (Kd.pair kH (Kd.int .i64)) (fun x : RF => ((x.A, x.bs.length, x.c), x.safe))
theorem kRF_open {w : World} {x : RF} {cs : List Value} (h : kRF.K w x cs) : cs = [.slice x.A x.bs.length x.c, .int .i64 x.safe] := by
  obtain ⟨_, _, rfl, rfl, rfl⟩ := h
  exact rfl
theorem kRF_mkM (w : World) (base : Nat) (ok : Nat → Prop) (x : RF) : kRF.M w base ok x [.slice x.A x.bs.length x.c, .int .i64 x.safe] := ⟨[.slice x.A x.bs.length x.c], [.int .i64 x.safe], rfl, rfl, rfl⟩
theorem kRF_openM {w : World} {base : Nat} {ok : Nat → Prop} {x : RF} {cs : List Value} (h : kRF.M w base ok x cs) : cs = [.slice x.A x.bs.length x.c, .int .i64 x.safe] := kRF_open (kRF.K_of_M h)
structure RSt where
  gr : Nat
  vf : Value
  vd : Value
  vs : Value
  vl : Value
  fs : List RF
  dir : List S91
  safe : List S91
  log : List S88
  quota : Int
/-- A file's bytes can be read. -/
def FB (w : World) (f : RF) : Prop := (Kd.int .u8).C w f.A f.bs.length f.bs ∧ f.bs.length ≤ f.c
structure RAt (w : World) (r : RSt) : Prop where
  hd : w.heap[r.gr]? = some (.cells #[r.vf, r.vd, r.vs, r.vl, .int .i64 r.quota] 80 (0, 0))
  hf : kRF.R 85 w 0 (fun _ => True) r.vf r.fs
  hi : k91.R 91 w 0 (fun _ => True) r.vd r.dir
  hs : k91.R 91 w 0 (fun _ => True) r.vs r.safe
  hl : k88.R 88 w 0 (fun _ => True) r.vl r.log
  hb : ∀ f ∈ r.fs, FB w f
  sep : ∀ f ∈ r.fs, 0 < f.bs.length → ∀ ad, f.A = some ad → ad.block ≠ r.gr ∧ r.vf.ownBlock ≠ some ad.block
def RFoot (r : RSt) (k : Nat) : Prop := k = r.gr ∨ r.vf.ownBlock = some k ∨ r.vd.ownBlock = some k ∨ r.vs.ownBlock = some k ∨ r.vl.ownBlock = some k ∨ ∃ f ∈ r.fs, 0 < f.bs.length ∧ ∃ ad, f.A = some ad ∧ ad.block = k
/-- What a call may write of what was. -/
def WF (r : RSt) (k : Nat) : Prop := k = r.gr ∨ r.vf.ownBlock = some k
theorem WF.foot {r : RSt} {k : Nat} (h : WF r k) : RFoot r k := h.elim .inl (fun h => .inr (.inl h))
section
variable {w w' : World} {r : RSt} (h : RAt w r)
include h
theorem RAt.foot {k : Nat} (hk : RFoot r k) : k < w.heap.size := by
  rcases hk with rfl | hk | hk | hk | hk | ⟨f, hf, hp, ad, hA, rfl⟩
  · exact blk_lt h.hd
  · exact Kd.R_lt h.hf k hk
  · exact Kd.R_lt h.hi k hk
  · exact Kd.R_lt h.hs k hk
  · exact Kd.R_lt h.hl k hk
  · have := (h.hb f hf).1
    rw [hA] at this
    exact Kd.C_lt this hp (by decide)
theorem RAt.move (hm : ∀ k, RFoot r k → w'.heap[k]? = w.heap[k]?) : RAt w' r :=
  ⟨(hm _ (.inl rfl)).trans h.hd, row_same rfl h.hf (fun k hk => hm k (.inr (.inl hk))), row_same rfl h.hi (fun k hk => hm k (.inr (.inr (.inl hk)))), row_same rfl h.hs (fun k hk => hm k (.inr (.inr (.inr (.inl hk))))), row_same rfl h.hl (fun k hk => hm k (.inr (.inr (.inr (.inr (.inl hk)))))),
    fun f hf => ⟨C_same (h.hb f hf).1 (fun hp ad hA => hm _ (.inr (.inr (.inr (.inr (.inr ⟨f, hf, hp, ad, hA, rfl⟩)))))), (h.hb f hf).2⟩, h.sep⟩
theorem RAt.below (hb : Below w.heap.size w w') : RAt w' r := h.move fun k hk => hb.block k (h.foot hk)
theorem RAt.drew : RAt w.drew r := h.move fun _ _ => rfl
theorem RAt.gr_own {v : Value} {α : Type} {d : Kd α} {e : Nat} {w0 : Nat} {ok : Nat → Prop} {xs : List α} (hr : d.R e w w0 ok v xs) (he : e ≠ 80) : v.ownBlock ≠ some r.gr := fun hk => by
  obtain ⟨cs, hc⟩ := Kd.R_typed hr _ hk
  exact blk_ne h.hd hc (fun e1 => he e1.symm) rfl
/-- A field of the disk's block is set: to a row that has been made since. -/
theorem RAt.put_dir {w1 : World} {v : Value} {l : List S91} (hb : Below w.heap.size w w1) (hr : k91.R 91 w1 0 (fun _ => True) v l) : RAt (w1.setCell ⟨r.gr, 1, none⟩ v) { r with vd := v, dir := l } := by
  have h1 := h.below hb
  have hm : ∀ k, k ≠ r.gr → (w1.setCell ⟨r.gr, 1, none⟩ v).heap[k]? = w1.heap[k]? := fun k hk => Below.heap_setCell _ _ _ _ hk
  exact ⟨blk_put h1.hd 1 _ rfl, row_same rfl h1.hf (fun k hk => hm k (fun e => h1.gr_own h1.hf (by decide) (e ▸ hk))), row_same rfl hr (fun k hk => hm k (fun e => h1.gr_own hr (by decide) (e ▸ hk))), row_same rfl h1.hs (fun k hk => hm k (fun e => h1.gr_own h1.hs (by decide) (e ▸ hk))), row_same rfl h1.hl (fun k hk => hm k (fun e => h1.gr_own h1.hl (by decide) (e ▸ hk))),
    fun f hf => ⟨C_same (h1.hb f hf).1 (fun hp ad hA => hm _ (h1.sep f hf hp ad hA).1), (h1.hb f hf).2⟩, h1.sep⟩
theorem RAt.put_safe {w1 : World} {v : Value} {l : List S91} (hb : Below w.heap.size w w1) (hr : k91.R 91 w1 0 (fun _ => True) v l) : RAt (w1.setCell ⟨r.gr, 2, none⟩ v) { r with vs := v, safe := l } := by
  have h1 := h.below hb
  have hm : ∀ k, k ≠ r.gr → (w1.setCell ⟨r.gr, 2, none⟩ v).heap[k]? = w1.heap[k]? := fun k hk => Below.heap_setCell _ _ _ _ hk
  exact ⟨blk_put h1.hd 2 _ rfl, row_same rfl h1.hf (fun k hk => hm k (fun e => h1.gr_own h1.hf (by decide) (e ▸ hk))), row_same rfl h1.hi (fun k hk => hm k (fun e => h1.gr_own h1.hi (by decide) (e ▸ hk))), row_same rfl hr (fun k hk => hm k (fun e => h1.gr_own hr (by decide) (e ▸ hk))), row_same rfl h1.hl (fun k hk => hm k (fun e => h1.gr_own h1.hl (by decide) (e ▸ hk))),
    fun f hf => ⟨C_same (h1.hb f hf).1 (fun hp ad hA => hm _ (h1.sep f hf hp ad hA).1), (h1.hb f hf).2⟩, h1.sep⟩
theorem RAt.put_log {w1 : World} {v : Value} {l : List S88} (hb : Below w.heap.size w w1) (hr : k88.R 88 w1 0 (fun _ => True) v l) : RAt (w1.setCell ⟨r.gr, 3, none⟩ v) { r with vl := v, log := l } := by
  have h1 := h.below hb
  have hm : ∀ k, k ≠ r.gr → (w1.setCell ⟨r.gr, 3, none⟩ v).heap[k]? = w1.heap[k]? := fun k hk => Below.heap_setCell _ _ _ _ hk
  exact ⟨blk_put h1.hd 3 _ rfl, row_same rfl h1.hf (fun k hk => hm k (fun e => h1.gr_own h1.hf (by decide) (e ▸ hk))), row_same rfl h1.hi (fun k hk => hm k (fun e => h1.gr_own h1.hi (by decide) (e ▸ hk))), row_same rfl h1.hs (fun k hk => hm k (fun e => h1.gr_own h1.hs (by decide) (e ▸ hk))), row_same rfl hr (fun k hk => hm k (fun e => h1.gr_own hr (by decide) (e ▸ hk))),
    fun f hf => ⟨C_same (h1.hb f hf).1 (fun hp ad hA => hm _ (h1.sep f hf hp ad hA).1), (h1.hb f hf).2⟩, h1.sep⟩
theorem RAt.put_quota (q : Int) : RAt (w.setCell ⟨r.gr, 4, none⟩ (.int .i64 q)) { r with quota := q } := by
  have hm : ∀ k, k ≠ r.gr → (w.setCell ⟨r.gr, 4, none⟩ (.int .i64 q)).heap[k]? = w.heap[k]? := fun k hk => Below.heap_setCell _ _ _ _ hk
  exact ⟨blk_put h.hd 4 _ rfl, row_same rfl h.hf (fun k hk => hm k (fun e => h.gr_own h.hf (by decide) (e ▸ hk))), row_same rfl h.hi (fun k hk => hm k (fun e => h.gr_own h.hi (by decide) (e ▸ hk))), row_same rfl h.hs (fun k hk => hm k (fun e => h.gr_own h.hs (by decide) (e ▸ hk))), row_same rfl h.hl (fun k hk => hm k (fun e => h.gr_own h.hl (by decide) (e ▸ hk))),
    fun f hf => ⟨C_same (h.hb f hf).1 (fun hp ad hA => hm _ (h.sep f hf hp ad hA).1), (h.hb f hf).2⟩, h.sep⟩
/-- Other files, in a row that has been made since; their bytes can be read, and are none of the disk's block. -/
theorem RAt.put_files {w1 : World} {v : Value} {l : List RF} (hb : Below w.heap.size w w1) (hr : kRF.R 85 w1 0 (fun _ => True) v l) (hF : ∀ f ∈ l, FB w1 f) (hS : ∀ f ∈ l, 0 < f.bs.length → ∀ ad, f.A = some ad → ad.block ≠ r.gr ∧ v.ownBlock ≠ some ad.block) : RAt (w1.setCell ⟨r.gr, 0, none⟩ v) { r with vf := v, fs := l } := by
  have h1 := h.below hb
  have hm : ∀ k, k ≠ r.gr → (w1.setCell ⟨r.gr, 0, none⟩ v).heap[k]? = w1.heap[k]? := fun k hk => Below.heap_setCell _ _ _ _ hk
  exact ⟨blk_put h1.hd 0 _ rfl, row_same rfl hr (fun k hk => hm k (fun e => h1.gr_own hr (by decide) (e ▸ hk))), row_same rfl h1.hi (fun k hk => hm k (fun e => h1.gr_own h1.hi (by decide) (e ▸ hk))), row_same rfl h1.hs (fun k hk => hm k (fun e => h1.gr_own h1.hs (by decide) (e ▸ hk))), row_same rfl h1.hl (fun k hk => hm k (fun e => h1.gr_own h1.hl (by decide) (e ▸ hk))),
    fun f hf => ⟨C_same (hF f hf).1 (fun hp ad hA => hm _ (hS f hf hp ad hA).1), (hF f hf).2⟩, hS⟩
/-- One file's two cells. -/
theorem RAt.file_cells {i : Nat} (hi : i < r.fs.length) : ∃ g c, r.vf = .slice (some ⟨g, 0, none⟩) r.fs.length c ∧ w.cell? ⟨g, i * 2, none⟩ = some (.slice r.fs[i].A r.fs[i].bs.length r.fs[i].c) ∧ w.cell? ⟨g, i * 2 + 1, none⟩ = some (.int .i64 r.fs[i].safe) ∧ ∀ j, w.frozen? ⟨g, j, none⟩ = false := by
  obtain ⟨g, c, e, _, _, cs, hcs⟩ := Kd.R_form h.hf (by omega)
  obtain ⟨cc, hcl, hM, hcc, _⟩ := Kd.R_elem (e ▸ h.hf) ⟨none, 0, [], 0⟩ (i : Int) (by omega) (by omega)
  have hx : r.fs.getD (i : Int).toNat ⟨none, 0, [], 0⟩ = r.fs[i] := by rw [Int.toNat_natCast, List.getD_eq_getElem?_getD, List.getElem?_eq_getElem hi]; rfl
  rw [hx] at hM
  have := kRF_openM hM
  subst this
  exact ⟨g, c, e, hcc 0 _ rfl, hcc 1 _ rfl, fun j => blk_frozen hcs j⟩
/-- A file's bytes are others (that have been made since), or others are safe: one cell of the files' row is written. -/
theorem RAt.set_bytes {w1 : World} {i : Nat} (hi : i < r.fs.length) {A : Option Addr} {c : Nat} {bs : List Int} {g cf : Nat} (hv : r.vf = .slice (some ⟨g, 0, none⟩) r.fs.length cf) (hb : Below w.heap.size w w1) (hF : FB w1 ⟨A, c, bs, r.fs[i].safe⟩) (hn : 0 < bs.length → ∀ ad, A = some ad → w.heap.size ≤ ad.block) :
    RAt (w1.setCell ⟨g, i * 2, none⟩ (.slice A bs.length c)) { r with fs := r.fs.set i ⟨A, c, bs, r.fs[i].safe⟩ } := by
  have h1 := h.below hb
  have hg : r.vf.ownBlock = some g := by rw [hv]; rfl
  have hgg : g ≠ r.gr := fun e => h1.gr_own h1.hf (by decide) (e ▸ hg)
  have hm : ∀ k, k ≠ g → (w1.setCell ⟨g, i * 2, none⟩ (.slice A bs.length c)).heap[k]? = w1.heap[k]? := fun k hk => Below.heap_setCell _ _ _ _ hk
  have hx : r.fs.getD (i : Int).toNat ⟨none, 0, [], 0⟩ = r.fs[i] := by rw [Int.toNat_natCast, List.getD_eq_getElem?_getD, List.getElem?_eq_getElem hi]; rfl
  obtain ⟨cc, hcl, hM, hcc, _⟩ := Kd.R_elem (hv ▸ h1.hf) ⟨none, 0, [], 0⟩ (i : Int) (by omega) (by omega)
  rw [hx] at hM
  have hce := kRF_openM hM
  subst hce
  have hR := (Kd.R_seg (okp := fun _ => False) (hv ▸ h1.hf) (i : Int) (by omega) (by omega) (c := _) (seg := [.slice A bs.length c]) (j := 0) hcl hcc (show 0 + 1 ≤ 2 by decide) (x' := ⟨A, c, bs, r.fs[i].safe⟩) (kRF_mkM _ _ _ ⟨A, c, bs, r.fs[i].safe⟩) (fun _ hk => hk.elim)).1
  rw [Int.toNat_natCast] at hR
  have hlt : ∀ k, RFoot r k → k < w.heap.size := fun k hk => h.foot hk
  have hR2 : kRF.R 85 (w1.setCell ⟨g, i * 2, none⟩ (.slice A bs.length c)) 0 (fun _ => True) (.slice (some ⟨g, 0, none⟩) r.fs.length cf) (r.fs.set i ⟨A, c, bs, r.fs[i].safe⟩) := hR
  have hold : ∀ f ∈ r.fs.set i ⟨A, c, bs, r.fs[i].safe⟩, f ∈ r.fs ∨ f = ⟨A, c, bs, r.fs[i].safe⟩ := fun f hf => (List.mem_or_eq_of_mem_set hf)
  have hsep : ∀ f ∈ r.fs.set i ⟨A, c, bs, r.fs[i].safe⟩, 0 < f.bs.length → ∀ ad, f.A = some ad → ad.block ≠ r.gr ∧ r.vf.ownBlock ≠ some ad.block := fun f hf hp ad hA => by
    rcases hold f hf with hf | rfl
    · exact h1.sep f hf hp ad hA
    · have h2 := hn hp ad hA
      exact ⟨fun e => by have := hlt _ (.inl rfl); omega, fun e => by have := hlt _ (.inr (.inl e)); omega⟩
  refine ⟨(hm _ hgg.symm).trans h1.hd, hv ▸ hR2, row_same rfl h1.hi (fun k hk => hm k (fun e => ?_)), row_same rfl h1.hs (fun k hk => hm k (fun e => ?_)), row_same rfl h1.hl (fun k hk => hm k (fun e => ?_)), fun f hf => ?_, hsep⟩
  · subst e
    obtain ⟨c1, h3⟩ := Kd.R_typed h1.hi _ hk
    obtain ⟨c2, h4⟩ := Kd.R_typed h1.hf _ hg
    exact blk_ne h3 h4 (by decide) rfl
  · subst e
    obtain ⟨c1, h3⟩ := Kd.R_typed h1.hs _ hk
    obtain ⟨c2, h4⟩ := Kd.R_typed h1.hf _ hg
    exact blk_ne h3 h4 (by decide) rfl
  · subst e
    obtain ⟨c1, h3⟩ := Kd.R_typed h1.hl _ hk
    obtain ⟨c2, h4⟩ := Kd.R_typed h1.hf _ hg
    exact blk_ne h3 h4 (by decide) rfl
  · have hFf : FB w1 f := by
      rcases hold f hf with hf | rfl
      · exact h1.hb f hf
      · exact hF
    exact ⟨C_same hFf.1 (fun hp ad hA => hm _ (fun e => (hsep f hf hp ad hA).2 (by rw [hg, e]))), hFf.2⟩
theorem RAt.set_safe {i : Nat} (hi : i < r.fs.length) {n : Int} {g cf : Nat} (hv : r.vf = .slice (some ⟨g, 0, none⟩) r.fs.length cf) :
    RAt (w.setCell ⟨g, i * 2 + 1, none⟩ (.int .i64 n)) { r with fs := r.fs.set i { r.fs[i] with safe := n } } := by
  have hg : r.vf.ownBlock = some g := by rw [hv]; rfl
  have hgg : g ≠ r.gr := fun e => h.gr_own h.hf (by decide) (e ▸ hg)
  have hm : ∀ k, k ≠ g → (w.setCell ⟨g, i * 2 + 1, none⟩ (.int .i64 n)).heap[k]? = w.heap[k]? := fun k hk => Below.heap_setCell _ _ _ _ hk
  have hx : r.fs.getD (i : Int).toNat ⟨none, 0, [], 0⟩ = r.fs[i] := by rw [Int.toNat_natCast, List.getD_eq_getElem?_getD, List.getElem?_eq_getElem hi]; rfl
  obtain ⟨cc, hcl, hM, hcc, _⟩ := Kd.R_elem (hv ▸ h.hf) ⟨none, 0, [], 0⟩ (i : Int) (by omega) (by omega)
  rw [hx] at hM
  have hce := kRF_openM hM
  subst hce
  have hR := (Kd.R_seg (okp := fun _ => False) (hv ▸ h.hf) (i : Int) (by omega) (by omega) (c := _) (seg := [.int .i64 n]) (j := 1) hcl hcc (show 1 + 1 ≤ 2 by decide) (x' := { r.fs[i] with safe := n }) (kRF_mkM _ _ _ { r.fs[i] with safe := n }) (fun _ hk => hk.elim)).1
  rw [Int.toNat_natCast] at hR
  have hR2 : kRF.R 85 (w.setCell ⟨g, i * 2 + 1, none⟩ (.int .i64 n)) 0 (fun _ => True) (.slice (some ⟨g, 0, none⟩) r.fs.length cf) (r.fs.set i { r.fs[i] with safe := n }) := hR
  have hold : ∀ f ∈ r.fs.set i { r.fs[i] with safe := n }, f ∈ r.fs ∨ f = { r.fs[i] with safe := n } := fun f hf => (List.mem_or_eq_of_mem_set hf)
  have hsep : ∀ f ∈ r.fs.set i { r.fs[i] with safe := n }, 0 < f.bs.length → ∀ ad, f.A = some ad → ad.block ≠ r.gr ∧ r.vf.ownBlock ≠ some ad.block := fun f hf hp ad hA => by
    rcases hold f hf with hf | rfl
    · exact h.sep f hf hp ad hA
    · exact h.sep r.fs[i] (List.getElem_mem hi) hp ad hA
  refine ⟨(hm _ hgg.symm).trans h.hd, hv ▸ hR2, row_same rfl h.hi (fun k hk => hm k (fun e => ?_)), row_same rfl h.hs (fun k hk => hm k (fun e => ?_)), row_same rfl h.hl (fun k hk => hm k (fun e => ?_)), fun f hf => ?_, hsep⟩
  · subst e
    obtain ⟨c1, h3⟩ := Kd.R_typed h.hi _ hk
    obtain ⟨c2, h4⟩ := Kd.R_typed h.hf _ hg
    exact blk_ne h3 h4 (by decide) rfl
  · subst e
    obtain ⟨c1, h3⟩ := Kd.R_typed h.hs _ hk
    obtain ⟨c2, h4⟩ := Kd.R_typed h.hf _ hg
    exact blk_ne h3 h4 (by decide) rfl
  · subst e
    obtain ⟨c1, h3⟩ := Kd.R_typed h.hl _ hk
    obtain ⟨c2, h4⟩ := Kd.R_typed h.hf _ hg
    exact blk_ne h3 h4 (by decide) rfl
  · have hFf : FB w f := by
      rcases hold f hf with hf | rfl
      · exact h.hb f hf
      · exact h.hb r.fs[i] (List.getElem_mem hi)
    exact ⟨C_same hFf.1 (fun hp ad hA => hm _ (fun e => (hsep f hf hp ad hA).2 (by rw [hg, e]))), hFf.2⟩
end
/-- From one of the document's disks to another. -/
structure RGoes (w : World) (r : RSt) (w' : World) (r' : RSt) : Prop where
  kept : Kept w w' (WF r)
  foot : ∀ k, RFoot r' k → RFoot r k ∨ w.heap.size ≤ k
  gr : r'.gr = r.gr
theorem RGoes.of_below {w w' : World} (r : RSt) (h : Below w.heap.size w w') : RGoes w r w' r := ⟨Kept.of_below h _, fun _ h => .inl h, rfl⟩
end Go.Proofs.Ytoninmgglcepmaa.Dk
