/- The document's Crash: the walk. -/
import Derived.Test.YtoninmgglcepmaaEC
namespace Go.Proofs.Ytoninmgglcepmaa.Dk
open Go.ChangeMaps hiding rd
open RegD Reg Go.RowKit Go.Proofs.YtoninmgglcepmaaW.PrintWords Go.Proofs.YtoninmgglcepmaaW.PrintLast Go.Proofs.YtoninmgglcepmaaW.PrintMore Mp QDiskPlays
attribute [local go_sem] max2_int min2_int max_two min_two max_three min_three max_four min_four
set_option linter.unusedVariables false
set_option linter.unusedSimpArgs false
/-- Changes done, one behind the other. -/
def runL (l : List S91) (cs : List S88) : List S91 := cs.foldl doL l
theorem runL_succ (l : List S91) (cs : List S88) {i : Nat} (hi : i < cs.length) : runL l (cs.take (i + 1)) = doL (runL l (cs.take i)) cs[i] := by
  rw [List.take_succ_eq_append_getElem hi, runL, List.foldl_append]
  rfl
theorem putL_len (l : List S91) (s : ByteArray) (g : Int) : (putL l s g).length ≤ l.length + 1 := by
  have h1 := dropL_len l s
  have h2 : ((dropL l s).takeWhile (lessB s)).length + ((dropL l s).dropWhile (lessB s)).length = (dropL l s).length := by
    rw [← List.length_append, List.takeWhile_append_dropWhile]
  rw [putL, List.length_append, List.length_cons]
  omega
theorem doL_len (l : List S91) (c : S88) : (doL l c).length ≤ l.length + 1 := by
  unfold doL
  have h1 := dropL_len l c.f1
  split
  · exact putL_len _ _ _
  · split
    · have := putL_len (dropL l c.f1) c.f2 c.f3
      omega
    · omega
theorem runL_len (l : List S91) (cs : List S88) : (runL l cs).length ≤ l.length + cs.length := by
  induction cs generalizing l with
  | nil => exact Nat.le_refl _
  | cons c cs ih =>
    have h1 := ih (doL l c)
    have h2 := doL_len l c
    show (runL (doL l c) cs).length ≤ _
    rw [List.length_cons]
    omega
def fAt (fs : List RF) (n : Int) : RF := fs.getD n.toNat n85
theorem fAt_eq {fs : List RF} {n : Int} {j : Nat} (h : n = (j : Int)) (hj : j < fs.length) : fAt fs n = fs[j] := by
  rw [fAt, h, Int.toNat_natCast, List.getD_eq_getElem?_getD, List.getElem?_eq_getElem hj]
  rfl
/-- What a crash leaves of a file. -/
def rcB (q : Nat) (x : RF) : List Int := crB q ⟨0, .slice none 0 0, x.bs, x.safe⟩
/-- The directory behind a crash: the files' numbers are new. -/
def nowL (E : List S91) : List S91 := E.mapIdx fun j e => ⟨e.f0, (j : Int)⟩
theorem nowL_len (E : List S91) : (nowL E).length = E.length := by simp [nowL]
theorem nowL_take (E : List S91) {j : Nat} (hj : j < E.length) : nowL (E.take (j + 1)) = nowL (E.take j) ++ [⟨E[j].f0, (j : Int)⟩] := by
  rw [List.take_succ_eq_append_getElem hj, nowL, List.mapIdx_concat, List.length_take, Nat.min_eq_left (Nat.le_of_lt hj)]
  rfl
/-- The files behind a crash. -/
def CrOk (q : Nat) (fs : List RF) (E : List S91) (F : List RF) : Prop := F.map (fun f => (f.bs, f.safe)) = E.map fun e => (rcB q (fAt fs e.f1), ((rcB q (fAt fs e.f1)).length : Int))
theorem CrOk.len {q : Nat} {fs : List RF} {E : List S91} {F : List RF} (h : CrOk q fs E F) : F.length = E.length := by
  have := congrArg List.length h
  simpa using this
theorem CrOk.step {q : Nat} {fs : List RF} {E : List S91} {F : List RF} {j : Nat} (hj : j < E.length) (h : CrOk q fs (E.take j) F) {x : RF} (hx : x.bs = rcB q (fAt fs E[j].f1)) (hs : x.safe = (x.bs.length : Int)) : CrOk q fs (E.take (j + 1)) (F ++ [x]) := by
  rw [CrOk, List.take_succ_eq_append_getElem hj, List.map_append, List.map_append, h]
  simp only [List.map_cons, List.map_nil, hs, hx]
/-- The second loop. -/
structure CSt (w w' : World) (v5 v8 v9 : Value) (q : Nat) (fs : List RF) (E : List S91) (j : Nat) (F : List RF) : Prop where
  b : Below w.heap.size w w'
  e : k91.R 91 w' w.heap.size (fun _ => True) v5 E
  f : kRF.R 85 w' w.heap.size (fun _ => True) v8 F
  n : k91.R 91 w' w.heap.size (fun _ => True) v9 (nowL (E.take j))
  a : ∀ k, v5.ownBlock = some k → v9.ownBlock ≠ some k
  r : ∀ f ∈ F, Kd.R (Kd.int .u8) 5 w' w.heap.size (fun _ => True) (.slice f.A f.bs.length f.c) f.bs
  ok : CrOk q fs (E.take j) F
theorem CSt.start {w w' : World} {v5 : Value} {q : Nat} {fs : List RF} {E : List S91} (hb : Below w.heap.size w w') (he : k91.R 91 w' w.heap.size (fun _ => True) v5 E) : CSt w w' v5 (.slice none 0 0) (.slice none 0 0) q fs E 0 [] :=
  ⟨hb, he, Kd.R_nil _ _ _ _ _, Kd.R_nil _ _ _ _ _, (fun _ _ h => by cases h), (fun _ h => by cases h), rfl⟩
theorem crash_cells {w wr w1 : World} {gr gf cf c5 g5 i j : Nat} {vd vs vl : Value} {fs : List RF} {dir safe E : List S91} {log : List S88} {q : Int} (h : RAt w ⟨gr, .slice (some ⟨gf, 0, none⟩) fs.length cf, vd, vs, vl, fs, dir, safe, log, q⟩) (hb : Below w.heap.size w wr) (he : k91.R 91 wr w.heap.size (fun _ => True) (.slice (some ⟨g5, 0, none⟩) E.length c5) E) (hb1 : Below wr.heap.size wr w1) (hj : j < E.length) (hi : E[j].f1 = (i : Int)) (hil : i < fs.length) {x : RF} (hx : x = fs[i]) :
    w1.cell? ⟨gr, 0, none⟩ = some (.slice (some ⟨gf, 0, none⟩) fs.length cf) ∧ w1.cell? ⟨g5, j * 2 + 1, none⟩ = some (.int .i64 (i : Int)) ∧ w1.cell? ⟨gf, i * 2, none⟩ = some (.slice x.A x.bs.length x.c) ∧ w1.cell? ⟨gf, i * 2 + 1, none⟩ = some (.int .i64 x.safe) := by
  have h1 := h.below (below_step hb hb1)
  obtain ⟨cc, hcl, hM, hcc, _⟩ := Kd.R_elem (Kd.R_below he hb1) z91 (j : Int) (by omega) (by omega)
  have hxx : E.getD (j : Int).toNat z91 = E[j] := by rw [Int.toNat_natCast, List.getD_eq_getElem?_getD, List.getElem?_eq_getElem hj]; rfl
  rw [hxx] at hM
  have := k91_openM hM
  subst this
  have h2 := hcc 1 _ rfl
  rw [hi] at h2
  subst hx
  exact ⟨blk_cell h1.hd 0, h2, (file_at h1 hil).1, (file_at h1 hil).2.1⟩
theorem row_sameB {α : Type} {d : Kd α} (hE : d.E = []) {e base : Nat} {w w' : World} {v : Value} {xs : List α} (h : d.R e w base (fun _ => True) v xs) (hb : ∀ k, v.ownBlock = some k → w'.heap[k]? = w.heap[k]?) : d.R e w' base (fun _ => True) v xs :=
  Kd.R_mono (Kd.R_move (Kd.R_tight hE h) (fun k hk => hb k hk.symm)) (fun _ _ => trivial)
theorem blk_bel {w w1 w2 : World} {g : Nat} {o : Obj} {row : Option Nat} (h : w1.heap[g]? = some o) (hb : Below w.heap.size w w1) (hg : w1.grownBy w2 row) (hne : some g ≠ row := by simp) : w2.heap[g]? = some o := blk_grown h hg hne
section
variable {w wr w5 w6 : World} {v5 u9 v8 : Value} {q j : Nat} {fs F : List RF} {E : List S91} (h : CSt w wr v5 v8 u9 q fs E j F)
include h
theorem CSt.f6 (hb : Below wr.heap.size wr w5) (hg : w5.grownBy w6 u9.ownBlock) : kRF.R 85 w6 w.heap.size (fun _ => True) v8 F := by
  have hf := Kd.R_below h.f hb
  have hn := Kd.R_below h.n hb
  refine row_sameB rfl hf (fun k hk => hg.block k (Kd.R_lt hf k hk) (fun he => ?_))
  obtain ⟨c1, h1⟩ := Kd.R_typed hf _ hk
  obtain ⟨c2, h2⟩ := Kd.R_typed hn _ he.symm
  exact blk_ne h1 h2 (by decide) rfl
theorem CSt.step {w7 : World} {v9 v8' : Value} (hj : j < E.length) (hb : Below wr.heap.size wr w5) {x : RF} (hx : Kd.R (Kd.int .u8) 5 w5 wr.heap.size (fun _ => True) (.slice x.A x.bs.length x.c) x.bs) (hxb : x.bs = rcB q (fAt fs E[j].f1)) (hxs : x.safe = (x.bs.length : Int))
    (h9 : k91.R 91 w6 w.heap.size (fun _ => True) v9 (nowL (E.take j) ++ [⟨E[j].f0, (F.length : Int)⟩])) (hg9 : w5.grownBy w6 u9.ownBlock) (hn9 : v9.ownBlock = u9.ownBlock ∨ ∃ b, v9.ownBlock = some b ∧ w5.heap.size ≤ b)
    (h8 : kRF.R 85 w7 w.heap.size (fun _ => True) v8' (F ++ [x])) (hg8 : w6.grownBy w7 v8.ownBlock) : CSt w w7 v5 v8' v9 q fs E (j + 1) (F ++ [x]) := by
  have hb5 := below_step h.b hb
  have hn := Kd.R_below h.n hb
  have hf6 := h.f6 hb hg9
  have he5 := Kd.R_below h.e hb
  have hb6 : Below w.heap.size w w6 := Below.grown hb5 hg9 hb5.size (fun k hk => Kd.R_base hn k hk)
  have hb7 : Below w.heap.size w w7 := Below.grown hb6 hg8 hb6.size (fun k hk => Kd.R_base hf6 k hk)
  have he6 : k91.R 91 w6 w.heap.size (fun _ => True) v5 E := row_sameB rfl he5 (fun k hk => hg9.block k (Kd.R_lt he5 k hk) (fun he => h.a k hk he.symm))
  have mv : ∀ {α : Type} {d : Kd α} {e : Nat} {v : Value} {xs : List α}, d.E = [] → d.R e w6 w.heap.size (fun _ => True) v xs → e ≠ 85 → d.R e w7 w.heap.size (fun _ => True) v xs := fun hE hr hne => row_sameB hE hr (fun k hk => hg8.block k (Kd.R_lt hr k hk) (fun he => by
    obtain ⟨c1, h1⟩ := Kd.R_typed hr _ hk
    obtain ⟨c2, h2⟩ := Kd.R_typed hf6 _ he.symm
    exact blk_ne h1 h2 hne rfl))
  have mv5 : ∀ {v : Value} {xs : List Int}, Kd.R (Kd.int .u8) 5 w5 w.heap.size (fun _ => True) v xs → Kd.R (Kd.int .u8) 5 w6 w.heap.size (fun _ => True) v xs := fun hr => row_sameB rfl hr (fun k hk => hg9.block k (Kd.R_lt hr k hk) (fun he => by
    obtain ⟨c1, h1⟩ := Kd.R_typed hr _ hk
    obtain ⟨c2, h2⟩ := Kd.R_typed hn _ he.symm
    exact blk_ne h1 h2 (by decide) rfl))
  have hFj : F.length = j := by have := h.ok.len; rw [List.length_take] at this; omega
  refine ⟨hb7, mv rfl he6 (by decide), h8, ?_, fun k hk => ?_, fun f hf => ?_, h.ok.step hj hxb hxs⟩
  · have h10 := mv rfl h9 (by decide)
    rw [hFj] at h10
    rw [nowL_take E hj]
    exact h10
  · rcases hn9 with hn9 | ⟨b, hb9, hl⟩
    · rw [hn9]; exact h.a k hk
    · rw [hb9]
      intro he
      injection he with he
      have := Kd.R_lt he5 k hk
      omega
  · rcases List.mem_append.1 hf with hf | hf
    · exact mv rfl (mv5 (Kd.R_below (h.r f hf) hb)) (by decide)
    · obtain rfl := List.mem_singleton.1 hf
      exact mv rfl (mv5 (Kd.R_lower hx h.b.size)) (by decide)
end
theorem CSt.files {v5 u9 v8 : Value} {w wr : World} {q j : Nat} {fs F : List RF} {E : List S91} (h : CSt w wr v5 v8 u9 q fs E j F) {r : RSt} (hr : RAt w r) : RAt (wr.setCell ⟨r.gr, 0, none⟩ v8) { r with vf := v8, fs := F } :=
  hr.put_files h.b (Kd.R_lower h.f (Nat.zero_le _)) (fun f hf => ⟨(Kd.R_reads' (h.r f hf)).2.2, (Kd.R_reads' (h.r f hf)).2.1⟩) (fun f hf hp ad hA => by
    have hk : (Value.slice f.A f.bs.length f.c).ownBlock = some ad.block := by rw [hA]; rfl
    have h1 := Kd.R_base (h.r f hf) _ hk
    have h2 := blk_lt hr.hd
    refine ⟨by omega, fun he => ?_⟩
    obtain ⟨c1, h3⟩ := Kd.R_typed h.f _ he
    obtain ⟨c2, h4⟩ := Kd.R_typed (h.r f hf) _ hk
    exact blk_ne h3 h4 (by decide) rfl)
theorem e_cell {w wr w5 : World} {g5 c5 j : Nat} {E : List S91} (hb : Below w.heap.size w wr) (he : k91.R 91 wr w.heap.size (fun _ => True) (.slice (some ⟨g5, 0, none⟩) E.length c5) E) (hb1 : Below wr.heap.size wr w5) (hj : j < E.length) : w5.cell? ⟨g5, j * 2, none⟩ = some (.string E[j].f0) := by
  obtain ⟨cc, hcl, hM, hcc, _⟩ := Kd.R_elem (Kd.R_below he hb1) z91 (j : Int) (by omega) (by omega)
  have hxx : E.getD (j : Int).toNat z91 = E[j] := by rw [Int.toNat_natCast, List.getD_eq_getElem?_getD, List.getElem?_eq_getElem hj]; rfl
  rw [hxx] at hM
  have := k91_openM hM
  subst this
  exact hcc 0 _ rfl
set_option maxHeartbeats 8000000 in
set_option maxRecDepth 100000 in
theorem crashR {w : World} {r : RSt} (h : RAt w r) (pick : Int) (P : Nat) (hp : (P : Int) = if pick < 0 then -(pick + 1) else pick) (hpb : -9223372036854775808 ≤ pick ∧ pick ≤ 9223372036854775807) (hsl : r.safe.length ≤ 1000) (hll : r.log.length ≤ 1000) {E : List S91} (hE : E = runL r.safe (r.log.take (P % (r.log.length + 1)))) (hok : ∀ e ∈ E, ∃ j : Nat, e.f1 = (j : Int) ∧ j < r.fs.length) (hsf : ∀ f ∈ r.fs, 0 ≤ f.safe ∧ f.safe ≤ f.bs.length ∧ f.bs.length ≤ 1000000) :
    Calls Try.prog 32 #[.pointer (some ⟨r.gr, 0, none⟩), .int .i64 pick] w fun e w' => e = .returned (.tuple #[]) ∧ ∃ vf vd vs F, RAt w' ⟨r.gr, vf, vd, vs, .slice none 0 0, F, nowL E, nowL E, [], -1⟩ ∧ CrOk (P / (r.log.length + 1)) r.fs E F ∧ RGoes w r w' ⟨r.gr, vf, vd, vs, .slice none 0 0, F, nowL E, nowL E, [], -1⟩ := by
  obtain ⟨gr, vf, vd, vs, vl, fs, dir, safe, log, qt⟩ := r
  obtain ⟨As, cs, es⟩ := Kd.R_slice h.hs
  obtain ⟨Al, cl, el⟩ := Kd.R_slice h.hl
  obtain ⟨Af, cf, ef⟩ := Kd.R_slice h.hf
  simp only at es el ef hsl hll hE hok hsf
  subst es el ef
  have HR := Aside0.mk h
  have hPw : (P : Int) ≤ 9223372036854775807 := by rw [hp]; split <;> omega
  have hlen : IntKind.i64.wrap ((log.length : Int) + 1) = ((log.length + 1 : Nat) : Int) := by rw [IntKind.wrap_i64]; omega
  obtain ⟨m, hm⟩ : ∃ m, m = P % (log.length + 1) := ⟨_, rfl⟩
  have hrem : (P : Int).tmod ((log.length : Int) + 1) = (m : Int) := by rw [hm]; exact Int.ofNat_tmod _ _
  have hn0 : ((log.length : Int) + 1 = 0) = False := eq_false (by omega)
  have hml : m ≤ log.length := by rw [hm]; exact Nat.le_of_lt_succ (Nat.mod_lt P (Nat.succ_pos log.length))
  obtain ⟨q, hq⟩ : ∃ q, q = P / (log.length + 1) := ⟨_, rfl⟩
  have hquo : wrap64 ((P : Int) / ((log.length : Int) + 1)) = (q : Int) := by
    have h1 : (P : Int) / ((log.length : Int) + 1) = (q : Int) := by rw [hq]; rfl
    have h2 : q ≤ P := hq ▸ Nat.div_le_self _ _
    rw [h1]
    clear hq h1
    unfold wrap64; omega
  have HQP := Aside0.mk (show (q : Int) ≤ 9223372036854775807 from Int.le_trans (Int.ofNat_le.2 (hq ▸ Nat.div_le_self _ _)) hPw)
  have HSL := Aside0.mk hsl
  have HLL := Aside0.mk hll
  have HML := Aside0.mk hml
  have HE : Aside0 (E = runL safe (log.take m)) := ⟨by rw [hm]; exact hE⟩
  have hel : E.length ≤ 2000 := by
    have := runL_len safe (log.take m)
    rw [HE.out]
    rw [List.length_take] at this
    omega
  have HEL := Aside0.mk hel
  have HOK := Aside0.mk hok
  have HSF := Aside0.mk hsf
  simp only
  rw [← hq]
  clear h hPw hsl hll hE hok hsf hq hm hml hel
  by_cases hneg : pick < 0
  case' pos =>
    have hnb : decide (pick < 0) = true := decide_eq_true hneg
    rw [if_pos hneg] at hp
    have hw1 : IntKind.i64.wrap (pick + 1) = pick + 1 := by rw [IntKind.wrap_i64]; omega
    have hw2 : IntKind.i64.wrap (-(pick + 1)) = (P : Int) := by rw [IntKind.wrap_i64]; omega
    clear hneg hp hpb
  case' neg =>
    have hnb : decide (pick < 0) = false := decide_eq_false hneg
    rw [if_neg hneg] at hp
    subst hp
    clear hneg hpb
  all_goals
    have hz0 : w.cell? ⟨gr, 3, none⟩ = some (.slice Al log.length cl) := blk_cell HR.out.hd 3
    go_enter Try.func32, Try.ntmps32
    go_wp2_with (first
      | ((with_reducible refine gate_dst (N := 25) rfl ?_); refine Kd.R_lit k91 (w0 := w) w.heap.size 91 ?hg (N := 25) ?hd (xs := ([] : List S91)) (inner := []) (ok := fun _ => True) (okp := fun _ => True) ?hr ?hp (fun _ hk => hk) trivial (Below.refl w.heap.size w) (Below.refl w.heap.size w).size (by simp) ?_; (case hd => rfl); (case hg => rfl); (case hr => first | (go_simp; done) | (go_simp; rfl)); (case hp => exact (Reps.none _ _)); intro v1 w1 ho_ hb_ hg_ hn_; clear hg_ hn_; have HO1 := Aside0.mk ho_; have HO1b := Aside0.mk hb_; have hz1 : w1.cell? ⟨gr, 2, none⟩ = some (.slice As safe.length cs) := blk_cell (HR.out.below hb_).hd 2; clear ho_ hb_)
      | ((with_reducible refine gate_builtin (b := .append) (xs := #[.tmp 25, .tmp 29]) rfl ?_); at_builtin; refine Kd.R_append_rows k91 (w0 := w) w.heap.size rfl (.tmp 25) (.tmp 29) 77 91 (.agg #[(.string ⟨#[]⟩), (.int .i64 0)]) 24 rfl Try.underlying77 info91 rfl (by decide) (by decide) v1 ([] : List S91) safe _ _ _ (fun _ => True) (fun _ => False) rfl rfl HO1.out (Kd.R_reads' (HR.out.below HO1b.out).hs).2.2 (fun x cs h => by rw [k91_open h]; exact k91_mkM _ _ _ x) (fun _ h => h.elim) (fun _ _ => trivial) HO1b.out HO1b.out.size (by have := HSL.out; show (0 + safe.length) * 24 ≤ _; omega) ?_; intro v2 w2 ho_ hb_ hg_ hn_; clear hg_ hn_; obtain ⟨Av2, cv2, ev2⟩ := Kd.R_slice ho_; subst ev2; have HO2 := Aside0.mk ho_; have HO2b := Aside0.mk hb_; replace ho_ : k91.R 91 w2 w.heap.size (fun _ => True) (.slice Av2 safe.length cv2) safe := ho_; replace HO2 := Aside0.mk ho_; clear ho_ hb_ hz1))
    go_loopg [6, 5] (m + 1) (fun kq v6 v5 w' => ∃ (i : Nat), v6 = .int .i64 (i : Int) ∧ Aside0 (m + 1 ≤ kq + i) ∧ Aside0 (i ≤ m) ∧ Aside0 (k91.R 91 w' w.heap.size (fun _ => True) v5 (runL safe (log.take i))) ∧ Aside0 (Below w.heap.size w w'))
    case atStart => exact ⟨0, rfl, ⟨by omega⟩, ⟨by omega⟩, HO2, HO2b⟩
    case round =>
      clear hz0 HO1 HO1b HO2 HO2b
      obtain ⟨i, rfl, HK, HI, HO, HB⟩ := hrel
      obtain ⟨k1, rfl⟩ : ∃ k1, gk = k1 + 1 := ⟨gk - 1, by have := HK.out; have := HI.out; omega⟩
      have HRr := Aside0.mk (HR.out.below HB.out)
      by_cases him : i < m
      · have hil : i < log.length := Nat.lt_of_lt_of_le him HML.out
        have hcb : decide (i < m) = true := decide_eq_true him
        have hzl : wr.cell? ⟨gr, 3, none⟩ = some (.slice Al log.length cl) := blk_cell HRr.out.hd 3
        obtain ⟨g, cc', he, _, _, _⟩ := Kd.R_form HRr.out.hl (show 0 < log.length by omega)
        injection he with he1 he2 he3
        subst he1 he3
        obtain ⟨cs1, hcl, hM, hcc, _⟩ := Kd.R_elem HRr.out.hl z88 (i : Int) (by omega) (by omega)
        have hcs := k88_openM hM
        generalize hce : (log.getD (i : Int).toNat z88) = c at hcs
        have hcx : log[i] = c := by rw [← hce, Int.toNat_natCast, List.getD_eq_getElem?_getD, List.getElem?_eq_getElem hil]; rfl
        subst hcs
        have e0 : wr.cell? ⟨g, i * 4, none⟩ = some (.int .i64 c.f0) := hcc 0 _ rfl
        have e1 : wr.cell? ⟨g, i * 4 + 1, none⟩ = some (.string c.f1) := hcc 1 _ rfl
        have e2 : wr.cell? ⟨g, i * 4 + 2, none⟩ = some (.string c.f2) := hcc 2 _ rfl
        have e3 : wr.cell? ⟨g, i * 4 + 3, none⟩ = some (.int .i64 c.f3) := hcc 3 _ rfl
        have HRU : Aside0 (runL safe (log.take (i + 1)) = doL (runL safe (log.take i)) c) := ⟨by rw [← hcx]; exact runL_succ _ _ hil⟩
        have hrel1 : Aside0 (m + 1 ≤ k1 + (i + 1)) := ⟨by have := HK.out; omega⟩
        have hrel2 : Aside0 (i + 1 ≤ m) := ⟨him⟩
        have hwi : IntKind.i64.wrap ((i : Int) + 1) = ((i + 1 : Nat) : Int) := by have := HML.out; have := HLL.out; rw [IntKind.wrap_i64]; omega
        obtain ⟨A5, c5, e5⟩ := Kd.R_slice HO.out
        subst e5
        have hlr : (runL safe (log.take i)).length ≤ 1000000 := by
          have h1 := runL_len safe (log.take i)
          have h2 := HLL.out
          have h3 := HSL.out
          rw [List.length_take] at h1
          omega
        have hD := Lib.hid (doR (Kd.R_lower HO.out (Nat.zero_le _)) c hlr)
        clear hcc hM hcl hcx hce hlr
        go_wp2_with (go_at_call 48; refine hD.out.mono ?_; rintro e w2 ⟨v2, rfl, hm2, hg2⟩; have HM2 := Aside0.mk hm2; have HG2 := Aside0.mk (below_step HB.out hg2); clear hm2 hg2)
        go_roundg k1
        case measure => omega
        case rel => exact ⟨i + 1, by first | rfl | (rw [hwi]; done) | (simp [hwi]; done), hrel1, hrel2, ⟨HRU.out ▸ Kd.R_lower HM2.out HB.out.size⟩, HG2⟩
      · obtain rfl : i = m := by have := HI.out; omega
        have hcb : decide (i < i) = false := decide_eq_false (by omega)
        clear him
        rw [← HE.out] at HO
        obtain ⟨A5, c5, e5⟩ := Kd.R_slice HO.out
        subst e5
        go_wp2
        simp only [hquo]
        go_loopg [10, 8, 9] (E.length + 1) (fun kq v10 v8 v9 w' => ∃ (j : Nat) (F : List RF), v10 = .int .i64 (j : Int) ∧ Aside0 (j ≤ E.length ∧ E.length + 1 ≤ kq + j) ∧ Aside0 (CSt w w' (.slice A5 E.length c5) v8 v9 q fs E j F))
        case atStart => exact ⟨0, [], rfl, ⟨by omega⟩, ⟨CSt.start HB.out HO.out⟩⟩
        case round =>
        clear HO HB HRr HK HI
        obtain ⟨j, F, rfl, HJ, HC⟩ := hrel
        obtain ⟨k1, rfl⟩ : ∃ k1, gk = k1 + 1 := ⟨gk - 1, by have := HJ.out; omega⟩
        by_cases hj : j < E.length
        · have hcb : decide (j < E.length) = true := decide_eq_true hj
          obtain ⟨g5, c5', he5, -⟩ := Kd.R_form HC.out.e (by omega)
          injection he5 with he5 he5b he5c
          subst he5 he5c
          obtain ⟨i, hi, hil⟩ := HOK.out _ (List.getElem_mem hj)
          obtain ⟨gf, cf2, ef2, -⟩ := HR.out.file_cells hil
          injection ef2 with ef2 ef2b ef2c
          subst ef2 ef2c
          obtain ⟨x, hx⟩ : ∃ x, x = fs[i] := ⟨_, rfl⟩
          obtain ⟨sn, hsn⟩ : ∃ n : Nat, (n : Int) = x.safe := ⟨x.safe.toNat, by have := (HSF.out x (hx ▸ List.getElem_mem hil)).1; omega⟩
          obtain ⟨Ax, cx, bx, sx⟩ := x
          simp only at hsn
          subst hsn
          have HSX : Aside0 (0 ≤ (sn : Int) ∧ (sn : Int) ≤ bx.length ∧ bx.length ≤ 1000000) := ⟨HSF.out _ (hx ▸ List.getElem_mem hil)⟩
          have HCC := Aside0.mk (fun (w1 : World) (hb : Below wr.heap.size wr w1) => crash_cells HR.out (HC.out.b) HC.out.e hb hj hi hil hx)
          simp only at HCC
          have HIX := Aside0.mk hi
          have HXE := Aside0.mk hx
          obtain ⟨u, hu⟩ : ∃ u, u = bx.length - sn := ⟨_, rfl⟩
          obtain ⟨kv, hkv⟩ : ∃ kv, kv = q % (u + 1) := ⟨_, rfl⟩
          obtain ⟨n, hn⟩ : ∃ n, n = sn + kv := ⟨_, rfl⟩
          obtain ⟨hs1, hs2, hs3⟩ := HSX.out
          have hkl : kv ≤ u := by rw [hkv]; exact Nat.le_of_lt_succ (Nat.mod_lt q (Nat.succ_pos u))
          have a1 : IntKind.i64.wrap ((bx.length : Int) - (sn : Int)) = (u : Int) := by clear hkv hn; rw [IntKind.wrap_i64]; omega
          have a2 : IntKind.i64.wrap ((u : Int) + 1) = ((u + 1 : Nat) : Int) := by clear hkv hn; rw [IntKind.wrap_i64]; omega
          have a3 : (q : Int).tmod ((u : Int) + 1) = (kv : Int) := by rw [hkv]; exact Int.ofNat_tmod _ _
          have a4 : ((u : Int) + 1 = 0) = False := eq_false (by omega)
          have a5 : IntKind.i64.wrap ((sn : Int) + (kv : Int)) = (n : Int) := by clear hkv; rw [IntKind.wrap_i64]; omega
          have hnl : n ≤ bx.length := by clear hkv; omega
          have hcx : bx.length ≤ cx := by have := ((HR.out.hb _ (hx ▸ List.getElem_mem hil)).2); exact this
          have hcutF := cut_to (P := Try.prog) 29 5 .i64 Try.underlying29 (i := _) rfl Ax bx.length cx (n : Int) (by omega) (by omega) hcx
          obtain ⟨y, hy⟩ : ∃ y, y = bx.take n := ⟨_, rfl⟩
          have hyl : y.length = n := by rw [hy, List.length_take]; omega
          have HCY : Aside0 (∀ w1, Below wr.heap.size wr w1 → Kd.C (Kd.int .u8) w1 Ax n y) := ⟨fun w1 hb => by
            have h1 := ((HR.out.below (below_step HC.out.b hb)).hb _ (hx ▸ List.getElem_mem hil)).1
            have h2 := Kd.C_take (m := n) h1 hnl
            rw [← hyl, hy]
            exact h2⟩
          have HRC : Aside0 (rcB q ⟨Ax, cx, bx, (sn : Int)⟩ = if 0 < kv ∧ q % 2 = 1 then y.set (n - 1) (bits .xor .u8 (rd y ((n : Int) - 1)) 85) else y) := ⟨by rw [hy, hn, hkv, hu]; rfl⟩
          have hwj : IntKind.i64.wrap ((j : Int) + 1) = ((j + 1 : Nat) : Int) := by have := HEL.out; rw [IntKind.wrap_i64]; omega
          have HNL := Aside0.mk hnl
          have HN := Aside0.mk hn
          have HYN := Aside0.mk hyl
          have HFL : Aside0 (F.length ≤ 2000) := ⟨by have h1 := HC.out.ok.len; have h2 := HEL.out; rw [List.length_take] at h1; omega⟩
          obtain ⟨A8, c8, e8⟩ := Kd.R_slice HC.out.f
          subst e8
          clear hu hkv hn hkl hnl hs1 hs2 hs3 hcx hy hyl hx hi
          go_upto_region 14 with (fail)
          refine hstart (fun w' => Below wr.heap.size wr w') [12] 13 (by kernel_rfl) rfl (by kernel_rfl) (below_drew (Below.refl _ _)) (fun w_ hw_ s_ => ?_)
          clear hw_
          refine hpure 0 (some 58) 1 [] (v := ?_) (a' := ?_) s_ rfl rfl (by kernel_rfl) (Or.inl ⟨by rfl, ?_⟩) ?_ ?_
          rotate_left
          · intro w' s0; go_simp; with_reducible rfl
          rotate_left
          · simp only [Act.put, List.setIfInBounds_toArray, List.set_cons_zero, List.set_cons_succ, i64_w, i32_w]; rfl
          refine hpure 1 (some 59) 2 [] (v := ?_) (a' := ?_) s_ rfl rfl (by kernel_rfl) (Or.inl ⟨by rfl, ?_⟩) ?_ ?_
          rotate_left
          · intro w' s0; go_simp; with_reducible rfl
          rotate_left
          · simp only [Act.put, List.setIfInBounds_toArray, List.set_cons_zero, List.set_cons_succ, i64_w, i32_w]; rfl
          refine hpure 2 (some 60) 3 [] (v := ?_) (a' := ?_) s_ rfl rfl (by kernel_rfl) (Or.inl ⟨by rfl, ?_⟩) ?_ ?_
          rotate_left
          · intro w' s0; go_simp; with_reducible rfl
          rotate_left
          · simp only [Act.put, List.setIfInBounds_toArray, List.set_cons_zero, List.set_cons_succ, i64_w, i32_w]; rfl
          refine hpure 3 (some 61) 4 [] (v := ?_) (a' := ?_) s_ rfl rfl (by kernel_rfl) (Or.inl ⟨by rfl, ?_⟩) ?_ ?_
          rotate_left
          · intro w' s0; have s1 := (HCC.out w' s0).1; go_simp; with_reducible rfl
          rotate_left
          · simp only [Act.put, List.setIfInBounds_toArray, List.set_cons_zero, List.set_cons_succ, i64_w, i32_w]; rfl
          refine hpure 4 (some 62) 5 [] (v := ?_) (a' := ?_) s_ rfl rfl (by kernel_rfl) (Or.inl ⟨by rfl, ?_⟩) ?_ ?_
          rotate_left
          · intro w' s0; go_simp; with_reducible rfl
          rotate_left
          · simp only [Act.put, List.setIfInBounds_toArray, List.set_cons_zero, List.set_cons_succ, i64_w, i32_w]; rfl
          refine hpure 5 (some 63) 6 [] (v := ?_) (a' := ?_) s_ rfl rfl (by kernel_rfl) (Or.inl ⟨by rfl, ?_⟩) ?_ ?_
          rotate_left
          · intro w' s0; go_simp; with_reducible rfl
          rotate_left
          · simp only [Act.put, List.setIfInBounds_toArray, List.set_cons_zero, List.set_cons_succ, i64_w, i32_w]; rfl
          refine hpure 6 (some 64) 7 [] (v := ?_) (a' := ?_) s_ rfl rfl (by kernel_rfl) (Or.inl ⟨by rfl, ?_⟩) ?_ ?_
          rotate_left
          · intro w' s0; go_simp; with_reducible rfl
          rotate_left
          · simp only [Act.put, List.setIfInBounds_toArray, List.set_cons_zero, List.set_cons_succ, i64_w, i32_w]; rfl
          refine hpure 7 (some 65) 8 [] (v := ?_) (a' := ?_) s_ rfl rfl (by kernel_rfl) (Or.inl ⟨by rfl, ?_⟩) ?_ ?_
          rotate_left
          · intro w' s0; go_simp; with_reducible rfl
          rotate_left
          · simp only [Act.put, List.setIfInBounds_toArray, List.set_cons_zero, List.set_cons_succ, i64_w, i32_w]; rfl
          refine hpure 8 (some 66) 9 [] (v := ?_) (a' := ?_) s_ rfl rfl (by kernel_rfl) (Or.inl ⟨by rfl, ?_⟩) ?_ ?_
          rotate_left
          · intro w' s0; have s1 := (HCC.out w' s0).2.1; go_simp; with_reducible rfl
          rotate_left
          · simp only [Act.put, List.setIfInBounds_toArray, List.set_cons_zero, List.set_cons_succ, i64_w, i32_w]; rfl
          refine hpure 9 (some 67) 10 [] (v := ?_) (a' := ?_) s_ rfl rfl (by kernel_rfl) (Or.inl ⟨by rfl, ?_⟩) ?_ ?_
          rotate_left
          · intro w' s0; go_simp; with_reducible rfl
          rotate_left
          · simp only [Act.put, List.setIfInBounds_toArray, List.set_cons_zero, List.set_cons_succ, i64_w, i32_w]; rfl
          refine hpure 10 (some 68) 11 [] (v := ?_) (a' := ?_) s_ rfl rfl (by kernel_rfl) (Or.inl ⟨by rfl, ?_⟩) ?_ ?_
          rotate_left
          · intro w' s0; obtain ⟨-, -, s1, s2⟩ := HCC.out w' s0; go_simp; with_reducible rfl
          rotate_left
          · simp only [Act.put, List.setIfInBounds_toArray, List.set_cons_zero, List.set_cons_succ, i64_w, i32_w]; rfl
          refine hone 11 (some 11) 12 [] rfl rfl (by kernel_rfl) (fun K hK => ?_)
          have HGX := Aside0.mk (show wr.heap.size ≤ w_.heap.size from s_.size)
          have sb_ := below_alloc s_ (.cells #[.slice none 0 0, .int .i64 0] 85)
          refine value_ (w1 := w_.alloc (.cells #[.slice none 0 0, .int .i64 0] 85)) (v := .pointer (some ⟨w_.heap.size, 0, none⟩)) (by rfl) rfl (by go_simp) (hK.out (fun w' => Below wr.heap.size wr w') _ _ (fun _ h => h) (fun _ => sb_) ?_)
          clear hK K
          replace s_ := sb_
          clear sb_
          have HN1 := Aside0.mk (blk_new w_ (.cells #[.slice none 0 0, .int .i64 0] 85))
          generalize hgx : w_.heap.size = gx at *
          generalize hux : w_.alloc (.cells #[.slice none 0 0, .int .i64 0] 85) = u_alloc at *
          clear hgx hux
          simp only [Act.put, List.setIfInBounds_toArray, List.set_cons_zero, List.set_cons_succ, i64_w, i32_w]
          refine hone 12 none 13 [] rfl rfl (by kernel_rfl) (fun K hK => ?_)
          have hcz0 : u_alloc.cell? ⟨gx, 0, none⟩ = some (.slice none 0 0) := blk_cell HN1.out 0
          have hcz1 : u_alloc.cell? ⟨gx, 1, none⟩ = some (.int .i64 0) := blk_cell HN1.out 1
          have hfz := blk_frozen HN1.out
          refine skip_ (w1 := (u_alloc.setCell ⟨gx, 0, none⟩ (.slice Ax bx.length cx)).setCell ⟨gx, 1, none⟩ (.int .i64 (sn : Int))) ?hp1 ?aL1 ?hr1 ?_
          case hp1 => rfl
          case aL1 => rfl
          case hr1 => go_simp
          refine hK.out (fun _ => False) _ _ (fun _ h => h.elim) (fun hn => absurd (by decide) hn) ?_
          clear hK K
          clear hcz0 hcz1 hfz
          refine hdone (by kernel_rfl) ?_
          have HX := Aside0.mk (blk_put (blk_put HN1.out 0 (.slice Ax bx.length cx) rfl) 1 (.int .i64 (sn : Int)) rfl)
          have HB2 := Aside0.mk (below_set (j := 1) (v := .int .i64 (sn : Int)) (below_set (j := 0) (v := .slice Ax bx.length cx) s_ HGX.out) HGX.out)
          generalize (u_alloc.setCell ⟨gx, 0, none⟩ (.slice Ax bx.length cx)).setCell ⟨gx, 1, none⟩ (.int .i64 (sn : Int)) = w2 at *
          have hx0 : w2.cell? ⟨gx, 0, none⟩ = some (.slice Ax bx.length cx) := blk_cell HX.out 0
          have hx1 : w2.cell? ⟨gx, 1, none⟩ = some (.int .i64 (sn : Int)) := blk_cell HX.out 1
          clear s_ HN1
          go_upto_region 18 with (first
            | ((with_reducible refine gate_dst (N := 79) rfl ?_); refine Kd.R_lit (Kd.int .u8) (w0 := wr) wr.heap.size 5 ?hg (N := 79) ?hd (xs := ([] : List Int)) (inner := []) (ok := fun _ => True) (okp := fun _ => True) ?hr ?hp (fun _ hk => hk) trivial HB2.out HB2.out.size (by simp) ?_; (case hd => rfl); (case hg => rfl); (case hr => first | (go_simp; done) | (go_simp; rfl)); (case hp => exact (Reps.none _ _)); intro v3 w3 ho_ hb_ hg_ hn_; clear hn_; have HO3 := Aside0.mk ho_; have HO3b := Aside0.mk hb_; have hx2 : w3.cell? ⟨gx, 0, none⟩ = some (.slice Ax bx.length cx) := blk_cell (blk_bel HX.out HB2.out hg_) 0; have hx3 : w3.cell? ⟨gx, 1, none⟩ = some (.int .i64 (sn : Int)) := blk_cell (blk_bel HX.out HB2.out hg_) 1; clear ho_ hb_ hg_ hx0 hx1)
            | ((with_reducible refine gate_builtin (b := .append) (xs := #[.tmp 79, .tmp 86]) rfl ?_); at_builtin; refine Kd.R_append_rows (Kd.int .u8) (w0 := wr) wr.heap.size rfl (.tmp 79) (.tmp 86) 29 5 (.int .u8 0) 1 rfl Try.underlying29 info5 rfl (by decide) (by decide) v3 ([] : List Int) y _ _ _ (fun _ => True) (fun _ => False) rfl rfl HO3.out (HCY.out _ HO3b.out) (fun _ _ h => h) (fun _ h => h.elim) (fun _ _ => trivial) HO3b.out HO3b.out.size (by have := HNL.out; have := HSX.out.2.2; show (0 + n) * 1 ≤ _; omega) ?_; intro v4 w4 ho_ hb_ hg_ hn_; clear hg_ hn_; obtain ⟨Av4, cv4, ev4⟩ := Kd.R_slice ho_; subst ev4; have HO4 := Aside0.mk ho_; have HO4b := Aside0.mk hb_; replace ho_ : Kd.R (Kd.int .u8) 5 w4 wr.heap.size (fun _ => True) (.slice Av4 y.length cv4) y := ho_; replace HO4 := Aside0.mk ho_; clear ho_ hb_ hx2 hx3))
          by_cases hk0 : 0 < kv ∧ q % 2 = 1
          · have hb1 : decide (0 < kv) = true := decide_eq_true hk0.1
            have hb2 : ((q : Int) % 2 == 1) = true := beq_iff_eq.2 (by have := hk0.2; omega)
            obtain ⟨n1, hn1⟩ : ∃ n1, n = n1 + 1 := ⟨n - 1, by have := HN.out; omega⟩
            have hl1 : n1 < y.length := by have := HYN.out; omega
            have a6 : IntKind.i64.wrap ((y.length : Int) - 1) = (n1 : Int) := by have := HYN.out; have := HNL.out; have := HSX.out.2.2; rw [IntKind.wrap_i64]; omega
            obtain ⟨gA, cA, eA, hgb, -, cs5, hcs5⟩ := Kd.R_form HO4.out (by omega)
            injection eA with eA eAb eAc
            subst eA eAc
            obtain ⟨X, hX⟩ : ∃ X, X = rd y (n1 : Int) := ⟨_, rfl⟩
            have hxc := (Kd.R_cell (enc := Value.int .u8) (h1 := fun _ => rfl) (xs := y) 0 HO4.out (n1 : Int) (by omega) (by omega)).1
            replace hxc : w4.cell? ⟨gA, n1, none⟩ = some (.int .u8 X) := by rw [hX]; exact hxc
            have hfz : w4.frozen? ⟨gA, n1, none⟩ = false := blk_frozen hcs5 n1
            obtain ⟨yb, hyb⟩ : ∃ yb, yb = y.set n1 (bits .xor .u8 X 85) := ⟨_, rfl⟩
            have HYL : Aside0 (yb.length = y.length) := ⟨by rw [hyb, List.length_set]⟩
            have HYB : Aside0 (yb = rcB q ⟨Ax, cx, bx, (sn : Int)⟩) := ⟨by rw [HRC.out, if_pos hk0, hyb, hX, show n - 1 = n1 from by omega, show ((n : Int) - 1) = (n1 : Int) from by omega]⟩
            have HY5 : Aside0 (Kd.R (Kd.int .u8) 5 (w4.setCell ⟨gA, n1, none⟩ (.int .u8 (bits .xor .u8 X 85))) wr.heap.size (fun _ => True) (.slice (some ⟨gA, 0, none⟩) yb.length cv4) yb) := ⟨by
              have h1 := (Kd.R_put (enc := Value.int .u8) (h1 := fun _ => rfl) (xs := y) HO4.out (n1 : Int) (bits .xor .u8 X 85)).1
              rw [HYL.out, hyb]
              exact h1⟩
            have HB5 : Aside0 (Below wr.heap.size wr (w4.setCell ⟨gA, n1, none⟩ (.int .u8 (bits .xor .u8 X 85)))) := ⟨below_set HO4b.out hgb⟩
            clear hk0 hn1 hX hcs5 hgb hyb HX HO3 HO3b HO4
            go_upto_region 20 with (fail)
            generalize w4.setCell ⟨gA, n1, none⟩ (.int .u8 (bits .xor .u8 X 85)) = w5 at *
            have HMK : Aside0 (∀ w1 b0 ok0, kRF.M w1 b0 ok0 ⟨(some ⟨gA, 0, none⟩), cv4, yb, (yb.length : Int)⟩ [.slice (some ⟨gA, 0, none⟩) y.length cv4, .int .i64 (y.length : Int)]) := ⟨fun _ _ _ => by rw [← HYL.out]; exact kRF_mkM _ _ _ ⟨(some ⟨gA, 0, none⟩), cv4, yb, (yb.length : Int)⟩⟩
            have e5c := (e_cell HC.out.b HC.out.e HB5.out hj)
            go_wp2_with (first | ((with_reducible refine gate_builtin (b := .append) (xs := #[.tmp 107, .tmp 116]) rfl ?_); at_builtin; refine Kd.R_append k91 w.heap.size rfl (.tmp 107) (.tmp 116) 77 91 (.agg #[(.string ⟨#[]⟩), (.int .i64 0)]) 24 rfl Try.underlying77 info91 rfl (by decide) (by decide) u9 (nowL (E.take j)) ⟨E[j].f0, (F.length : Int)⟩ [.string E[j].f0, .int .i64 (F.length : Int)] (fun _ => True) (fun _ => False) rfl rfl (k91_mkM _ _ _ ⟨E[j].f0, (F.length : Int)⟩) (fun _ hk => hk.elim) (fun _ _ => trivial) (Kd.R_below HC.out.n HB5.out) (below_step HC.out.b HB5.out) (below_step HC.out.b HB5.out).size ?aL ?_; (case aL => have h1 := HEL.out; have h2 := nowL_len (E.take j); rw [List.length_take] at h2; omega); intro v9 w6 ho_ hb_ hg_ hn_; have HO6 := Aside0.mk ho_; have HB6 := Aside0.mk hb_; have HG6 := Aside0.mk hg_; have HN6 := Aside0.mk hn_; clear ho_ hb_ hg_ hn_) | ((with_reducible refine gate_builtin (b := .append) (xs := #[.tmp 118, .tmp 123]) rfl ?_); at_builtin; refine Kd.R_append kRF w.heap.size rfl (.tmp 118) (.tmp 123) 76 85 (.agg #[(.slice none 0 0), (.int .i64 0)]) 32 rfl Try.underlying76 info85 rfl (by decide) (by decide) (.slice A8 F.length c8) F ⟨(some ⟨gA, 0, none⟩), cv4, yb, (yb.length : Int)⟩ [.slice (some ⟨gA, 0, none⟩) y.length cv4, .int .i64 (y.length : Int)] (fun _ => True) (fun _ => False) rfl rfl (HMK.out _ _ _) (fun _ hk => hk.elim) (fun _ _ => trivial) (HC.out.f6 HB5.out HG6.out) HB6.out HB6.out.size ?aL ?_; (case aL => have := HFL.out; omega); intro v8 w7 ho_ hb_ hg_ hn_; have HO7 := Aside0.mk ho_; have HG7 := Aside0.mk hg_; clear ho_ hb_ hg_ hn_))
            go_roundg k1
            case measure => have := HJ.out; omega
            case rel => exact ⟨j + 1, F ++ [⟨(some ⟨gA, 0, none⟩), cv4, yb, (yb.length : Int)⟩], by first | rfl | (rw [hwj]; done) | (simp [hwj]; done), ⟨by have := HJ.out; omega⟩, ⟨HC.out.step hj HB5.out HY5.out (by rw [fAt_eq HIX.out hil, ← HXE.out]; exact HYB.out) rfl HO6.out HG6.out HN6.out HO7.out HG7.out⟩⟩
          · have hch : decide (0 < kv) = false ∨ (((q : Int) % 2 == 1) = false ∧ decide (0 < kv) = true) := by
              by_cases hk1 : 0 < kv
              · exact .inr ⟨beq_eq_false_iff_ne.mpr (fun he => hk0 ⟨hk1, by omega⟩), decide_eq_true hk1⟩
              · exact .inl (decide_eq_false hk1)
            obtain ⟨yb, hyb⟩ : ∃ yb, yb = y := ⟨_, rfl⟩
            have HYL : Aside0 (yb.length = y.length) := ⟨by rw [hyb]⟩
            have HYB : Aside0 (yb = rcB q ⟨Ax, cx, bx, (sn : Int)⟩) := ⟨by rw [HRC.out, if_neg hk0, hyb]⟩
            have HY5 : Aside0 (Kd.R (Kd.int .u8) 5 w4 wr.heap.size (fun _ => True) (.slice Av4 yb.length cv4) yb) := ⟨hyb ▸ HO4.out⟩
            have HB5 := HO4b
            clear hk0 HX HO3 HO3b HO4 hyb
            rcases hch with hch | ⟨hch, hch2⟩
            all_goals
              go_upto_region 20 with (fail)
              generalize w4 = w5 at *
              have HMK : Aside0 (∀ w1 b0 ok0, kRF.M w1 b0 ok0 ⟨Av4, cv4, yb, (yb.length : Int)⟩ [.slice Av4 y.length cv4, .int .i64 (y.length : Int)]) := ⟨fun _ _ _ => by rw [← HYL.out]; exact kRF_mkM _ _ _ ⟨Av4, cv4, yb, (yb.length : Int)⟩⟩
              have e5c := (e_cell HC.out.b HC.out.e HB5.out hj)
              go_wp2_with (first | ((with_reducible refine gate_builtin (b := .append) (xs := #[.tmp 107, .tmp 116]) rfl ?_); at_builtin; refine Kd.R_append k91 w.heap.size rfl (.tmp 107) (.tmp 116) 77 91 (.agg #[(.string ⟨#[]⟩), (.int .i64 0)]) 24 rfl Try.underlying77 info91 rfl (by decide) (by decide) u9 (nowL (E.take j)) ⟨E[j].f0, (F.length : Int)⟩ [.string E[j].f0, .int .i64 (F.length : Int)] (fun _ => True) (fun _ => False) rfl rfl (k91_mkM _ _ _ ⟨E[j].f0, (F.length : Int)⟩) (fun _ hk => hk.elim) (fun _ _ => trivial) (Kd.R_below HC.out.n HB5.out) (below_step HC.out.b HB5.out) (below_step HC.out.b HB5.out).size ?aL ?_; (case aL => have h1 := HEL.out; have h2 := nowL_len (E.take j); rw [List.length_take] at h2; omega); intro v9 w6 ho_ hb_ hg_ hn_; have HO6 := Aside0.mk ho_; have HB6 := Aside0.mk hb_; have HG6 := Aside0.mk hg_; have HN6 := Aside0.mk hn_; clear ho_ hb_ hg_ hn_) | ((with_reducible refine gate_builtin (b := .append) (xs := #[.tmp 118, .tmp 123]) rfl ?_); at_builtin; refine Kd.R_append kRF w.heap.size rfl (.tmp 118) (.tmp 123) 76 85 (.agg #[(.slice none 0 0), (.int .i64 0)]) 32 rfl Try.underlying76 info85 rfl (by decide) (by decide) (.slice A8 F.length c8) F ⟨Av4, cv4, yb, (yb.length : Int)⟩ [.slice Av4 y.length cv4, .int .i64 (y.length : Int)] (fun _ => True) (fun _ => False) rfl rfl (HMK.out _ _ _) (fun _ hk => hk.elim) (fun _ _ => trivial) (HC.out.f6 HB5.out HG6.out) HB6.out HB6.out.size ?aL ?_; (case aL => have := HFL.out; omega); intro v8 w7 ho_ hb_ hg_ hn_; have HO7 := Aside0.mk ho_; have HG7 := Aside0.mk hg_; clear ho_ hb_ hg_ hn_))
              go_roundg k1
              case measure => have := HJ.out; omega
              case rel => exact ⟨j + 1, F ++ [⟨Av4, cv4, yb, (yb.length : Int)⟩], by first | rfl | (rw [hwj]; done) | (simp [hwj]; done), ⟨by have := HJ.out; omega⟩, ⟨HC.out.step hj HB5.out HY5.out (by rw [fAt_eq HIX.out hil, ← HXE.out]; exact HYB.out) rfl HO6.out HG6.out HN6.out HO7.out HG7.out⟩⟩
        · obtain rfl : j = E.length := by have := HJ.out; omega
          have hcb : decide (E.length < E.length) = false := decide_eq_false (by omega)
          clear hj HJ
          have HCR : Aside0 (CrOk q fs E F) := ⟨by have := HC.out.ok; rw [List.take_length] at this; exact this⟩
          have HNR : Aside0 (k91.R 91 wr w.heap.size (fun _ => True) u9 (nowL E)) := ⟨by have := HC.out.n; rw [List.take_length] at this; exact this⟩
          obtain ⟨A9, c9, e9⟩ := Kd.R_slice HNR.out
          subst e9
          obtain ⟨A8, c8, e8⟩ := Kd.R_slice HC.out.f
          subst e8
          have HRr2 := Aside0.mk (HR.out.below HC.out.b)
          have HGL := Aside0.mk (show gr < w.heap.size from blk_lt HR.out.hd)
          have hy0 : wr.cell? ⟨gr, 0, none⟩ = some (.slice Af fs.length cf) := blk_cell HRr2.out.hd 0
          have hy0f : wr.frozen? ⟨gr, 0, none⟩ = false := blk_frozen HRr2.out.hd 0
          have HZ1 : Aside0 (RAt (wr.setCell ⟨gr, 0, none⟩ (.slice A8 F.length c8)) ⟨gr, .slice A8 F.length c8, vd, .slice As safe.length cs, .slice Al log.length cl, F, dir, safe, log, qt⟩) := ⟨HC.out.files HR.out⟩
          have HK1 : Aside0 (Kept w (wr.setCell ⟨gr, 0, none⟩ (.slice A8 F.length c8)) (fun k => k = gr)) := ⟨Kept.of_grown (grown_set (Below.refl _ _) gr 0 (.slice A8 F.length c8)) (Kept.of_below HC.out.b _) (fun k hk => by injection hk with hk; exact .inl hk.symm)⟩
          have HN1 : Aside0 (k91.R 91 (wr.setCell ⟨gr, 0, none⟩ (.slice A8 F.length c8)) w.heap.size (fun _ => True) (.slice A9 (nowL E).length c9) (nowL E)) := ⟨row_sameB rfl HNR.out (fun k hk => Below.heap_setCell _ _ _ _ (fun e => by have h1 := Kd.R_base HNR.out k hk; have h2 := HGL.out; have e2 : k = gr := e; omega))⟩
          go_upto_region 23 with (fail)
          generalize wr.setCell ⟨gr, 0, none⟩ (.slice A8 F.length c8) = w1 at *
          have hy1 : w1.cell? ⟨gr, 1, none⟩ = some vd := blk_cell HZ1.out.hd 1
          have hy1f : w1.frozen? ⟨gr, 1, none⟩ = false := blk_frozen HZ1.out.hd 1
          have HZ2 : Aside0 (RAt (w1.setCell ⟨gr, 1, none⟩ (.slice A9 (nowL E).length c9)) ⟨gr, .slice A8 F.length c8, .slice A9 (nowL E).length c9, .slice As safe.length cs, .slice Al log.length cl, F, nowL E, safe, log, qt⟩) := ⟨HZ1.out.put_dir (Below.refl _ _) (Kd.R_lower HN1.out (Nat.zero_le _))⟩
          have HK2 : Aside0 (Kept w (w1.setCell ⟨gr, 1, none⟩ (.slice A9 (nowL E).length c9)) (fun k => k = gr)) := ⟨Kept.of_grown (grown_set (Below.refl _ _) gr 1 _) HK1.out (fun k hk => by injection hk with hk; exact .inl hk.symm)⟩
          go_upto_region 24 with (fail)
          generalize w1.setCell ⟨gr, 1, none⟩ (.slice A9 (nowL E).length c9) = w2 at *
          clear hy0 hy0f hy1 hy1f
          go_upto_region 25 with (first
            | ((with_reducible refine gate_dst (N := 134) rfl ?_); refine Kd.R_lit k91 (w0 := w2) w2.heap.size 91 ?hg (N := 134) ?hd (xs := ([] : List S91)) (inner := []) (ok := fun _ => True) (okp := fun _ => True) ?hr ?hp (fun _ hk => hk) trivial (Below.refl w2.heap.size w2) (Below.refl w2.heap.size w2).size (by simp) ?_; (case hd => rfl); (case hg => rfl); (case hr => first | (go_simp; done) | (go_simp; rfl)); (case hp => exact (Reps.none _ _)); intro v3 w3 ho_ hb_ hg_ hn_; clear hg_ hn_; have HO3 := Aside0.mk ho_; have HO3b := Aside0.mk hb_; clear ho_ hb_)
            | ((with_reducible refine gate_builtin (b := .append) (xs := #[.tmp 134, .tmp 135]) rfl ?_); at_builtin; refine Kd.R_append_rows k91 (w0 := w2) w2.heap.size rfl (.tmp 134) (.tmp 135) 77 91 (.agg #[(.string ⟨#[]⟩), (.int .i64 0)]) 24 rfl Try.underlying77 info91 rfl (by decide) (by decide) v3 ([] : List S91) (nowL E) _ _ _ (fun _ => True) (fun _ => False) rfl rfl HO3.out (Kd.R_reads' (HZ2.out.below HO3b.out).hi).2.2 (fun x cs h => by rw [k91_open h]; exact k91_mkM _ _ _ x) (fun _ h => h.elim) (fun _ _ => trivial) HO3b.out HO3b.out.size (by have := HEL.out; have := nowL_len E; show (0 + (nowL E).length) * 24 ≤ _; omega) ?_; intro v4 w4 ho_ hb_ hg_ hn_; clear hg_ hn_; obtain ⟨Av4, cv4, ev4⟩ := Kd.R_slice ho_; subst ev4; have HO4 := Aside0.mk ho_; have HO4b := Aside0.mk hb_; replace ho_ : k91.R 91 w4 w2.heap.size (fun _ => True) (.slice Av4 (nowL E).length cv4) (nowL E) := ho_; replace HO4 := Aside0.mk ho_; have hy2 : w4.cell? ⟨gr, 2, none⟩ = some (.slice As safe.length cs) := blk_cell (HZ2.out.below hb_).hd 2; have hy2f : w4.frozen? ⟨gr, 2, none⟩ = false := blk_frozen (HZ2.out.below hb_).hd 2; clear ho_ hb_))
          have HZ3 : Aside0 (RAt (w4.setCell ⟨gr, 2, none⟩ (.slice Av4 (nowL E).length cv4)) ⟨gr, .slice A8 F.length c8, .slice A9 (nowL E).length c9, .slice Av4 (nowL E).length cv4, .slice Al log.length cl, F, nowL E, nowL E, log, qt⟩) := ⟨HZ2.out.put_safe HO4b.out (Kd.R_lower HO4.out (Nat.zero_le _))⟩
          have HK3 : Aside0 (Kept w (w4.setCell ⟨gr, 2, none⟩ (.slice Av4 (nowL E).length cv4)) (fun k => k = gr)) := ⟨Kept.of_grown (grown_set (Below.refl _ _) gr 2 _) (HK2.out.below HO4b.out) (fun k hk => by injection hk with hk; exact .inl hk.symm)⟩
          generalize w4.setCell ⟨gr, 2, none⟩ (.slice Av4 (nowL E).length cv4) = w5 at *
          have hy3 : w5.cell? ⟨gr, 3, none⟩ = some (.slice Al log.length cl) := blk_cell HZ3.out.hd 3
          have hy3f : w5.frozen? ⟨gr, 3, none⟩ = false := blk_frozen HZ3.out.hd 3
          have HZ4 : Aside0 (RAt (w5.setCell ⟨gr, 3, none⟩ (.slice none 0 0)) ⟨gr, .slice A8 F.length c8, .slice A9 (nowL E).length c9, .slice Av4 (nowL E).length cv4, .slice none 0 0, F, nowL E, nowL E, [], qt⟩) := ⟨HZ3.out.put_log (Below.refl _ _) (Kd.R_nil k88 88 _ 0 (fun _ => True))⟩
          have HK4 : Aside0 (Kept w (w5.setCell ⟨gr, 3, none⟩ (.slice none 0 0)) (fun k => k = gr)) := ⟨Kept.of_grown (grown_set (Below.refl _ _) gr 3 _) HK3.out (fun k hk => by injection hk with hk; exact .inl hk.symm)⟩
          go_upto_region 26 with (fail)
          generalize w5.setCell ⟨gr, 3, none⟩ (.slice none 0 0) = w6 at *
          have hy4 : w6.cell? ⟨gr, 4, none⟩ = some (.int .i64 qt) := blk_cell HZ4.out.hd 4
          have hy4f : w6.frozen? ⟨gr, 4, none⟩ = false := blk_frozen HZ4.out.hd 4
          have HZ5 : Aside0 (RAt (w6.setCell ⟨gr, 4, none⟩ (.int .i64 (-1))) ⟨gr, .slice A8 F.length c8, .slice A9 (nowL E).length c9, .slice Av4 (nowL E).length cv4, .slice none 0 0, F, nowL E, nowL E, [], -1⟩) := ⟨HZ4.out.put_quota _⟩
          have HK5 : Aside0 (Kept w (w6.setCell ⟨gr, 4, none⟩ (.int .i64 (-1))) (fun k => k = gr)) := ⟨Kept.of_grown (grown_set (Below.refl _ _) gr 4 _) HK4.out (fun k hk => by injection hk with hk; exact .inl hk.symm)⟩
          go_wp2
          go_end0
          refine ⟨rfl, _, _, _, _, HZ5.out, HCR.out, HK5.out.mono (fun k hk => .inl hk), fun k hk => ?_, rfl⟩
          rcases hk with hk | hk | hk | hk | hk | ⟨f, hf, hp, ad, hA, he⟩
          · exact .inl (.inl hk)
          · exact .inr (Kd.R_base HC.out.f k hk)
          · exact .inr (Kd.R_base HNR.out k hk)
          · exact .inr (Nat.le_trans HK2.out.size (Kd.R_base HO4.out k hk))
          · cases hk
          · exact .inr (he ▸ Kd.R_base (HC.out.r f hf) _ (by rw [hA]; rfl))
end Go.Proofs.Ytoninmgglcepmaa.Dk
