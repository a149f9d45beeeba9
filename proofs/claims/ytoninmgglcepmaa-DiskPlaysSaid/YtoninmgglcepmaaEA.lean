/- The document's New, Quota, Sync, Rename, Remove: the walks. -/
import Derived.Test.YtoninmgglcepmaaE3
namespace Go.Proofs.Ytoninmgglcepmaa.Dk
open Go.ChangeMaps hiding rd
open RegD Go.RowKit Go.Proofs.YtoninmgglcepmaaW.PrintWords Go.Proofs.YtoninmgglcepmaaW.PrintLast Go.Proofs.YtoninmgglcepmaaW.PrintMore Mp QDiskPlays
attribute [local go_sem] max2_int min2_int max_two min_two max_three min_three max_four min_four
set_option linter.unusedVariables false
set_option linter.unusedSimpArgs false
def newR (w : World) : RSt := ⟨w.heap.size, .slice none 0 0, .slice none 0 0, .slice none 0 0, .slice none 0 0, [], [], [], [], -1⟩
theorem newRC (w : World) : Calls Try.prog 24 #[] w fun e w' => e = .returned (.pointer (some ⟨w.heap.size, 0, none⟩)) ∧ RAt w' (newR w) ∧ Below w.heap.size w w' := by
  go_enter Try.func24, Try.ntmps24
  go_wp2
  go_ret
  exact ⟨rfl, ⟨blk_new w _, Kd.R_nil _ _ _ _ _, Kd.R_nil _ _ _ _ _, Kd.R_nil _ _ _ _ _, Kd.R_nil _ _ _ _ _, fun f hf => (by cases hf), fun f hf => (by cases hf)⟩, below_alloc (Below.refl _ _) _⟩
theorem quotaR {w : World} {r : RSt} (h : RAt w r) (n : Int) : Calls Try.prog 31 #[.pointer (some ⟨r.gr, 0, none⟩), .int .i64 n] w fun e w' => e = .returned (.tuple #[]) ∧ RAt w' { r with quota := if n < 0 then -1 else n } ∧ RGoes w r w' { r with quota := if n < 0 then -1 else n } := by
  have hG : ∀ q, RGoes w r (w.setCell ⟨r.gr, 4, none⟩ (.int .i64 q)) { r with quota := q } := fun q => ⟨Kept.of_grown (grown_set (Below.refl _ _) r.gr 4 _) (Kept.refl _ _) (fun k hk => by injection hk with hk; exact .inl (.inl hk.symm)), fun k hk => .inl hk, rfl⟩
  have hP := h.put_quota
  have hc : w.cell? ⟨r.gr, 4, none⟩ = some (.int .i64 r.quota) := blk_cell h.hd 4
  have hf := blk_frozen h.hd 4
  have HG := Aside0.mk hG
  have HP := Aside0.mk hP
  clear hG hP h
  by_cases hn : n < 0
  · have b1 : decide (n < 0) = true := decide_eq_true hn
    rw [if_pos hn]
    clear hn
    go_enter Try.func31, Try.ntmps31
    go_wp2
    go_end0
    exact ⟨rfl, HP.out _, HG.out _⟩
  · have b1 : decide (n < 0) = false := decide_eq_false hn
    rw [if_neg hn]
    clear hn
    go_enter Try.func31, Try.ntmps31
    go_wp2
    go_end0
    exact ⟨rfl, HP.out _, HG.out _⟩
theorem RGoes.trans {w w1 w2 : World} {r r1 r2 : RSt} (h : RGoes w r w1 r1) (k : RGoes w1 r1 w2 r2) (hw : ∀ x, WF r1 x → WF r x ∨ w.heap.size ≤ x) : RGoes w r w2 r2 :=
  ⟨h.kept.then_ k.kept hw, fun x hx => (k.foot x hx).elim (h.foot x) (fun hs => .inr (Nat.le_trans h.kept.size hs)), k.gr.trans h.gr⟩
def renRE (r : RSt) (s t : ByteArray) : Int := if badName s = true then 20 else if badName t = true then 20 else if findI r.dir s < 0 then 25 else 0
set_option maxHeartbeats 8000000 in
set_option maxRecDepth 100000 in
theorem renR {w : World} {r : RSt} (h : RAt w r) (s t : ByteArray) (hd : r.dir.length ≤ 1000000) (hl : r.log.length ≤ 1000000) :
    Calls Try.prog 28 #[.pointer (some ⟨r.gr, 0, none⟩), .string s, .string t] w fun e w' => e = .returned (.int .i64 (renRE r s t)) ∧ ((renRE r s t ≠ 0 ∧ RAt w' r ∧ Below w.heap.size w w') ∨
      (renRE r s t = 0 ∧ ∃ v1 v2, RAt w' { r with vd := v1, dir := doL r.dir ⟨2, s, t, findI r.dir s⟩, vl := v2, log := r.log ++ [⟨2, s, t, findI r.dir s⟩] } ∧ RGoes w r w' { r with vd := v1, dir := doL r.dir ⟨2, s, t, findI r.dir s⟩, vl := v2, log := r.log ++ [⟨2, s, t, findI r.dir s⟩] })) := by
  obtain ⟨Ad, cd, ed⟩ := Kd.R_slice h.hi
  have HED := Aside0.mk ed
  have HR := Aside0.mk h
  have HDL := Aside0.mk hd
  have HLL := Aside0.mk hl
  have HN := Lib.hid nameR
  clear h hd hl ed
  unfold renRE
  cases hs : badName s with
  | true =>
    have hn := nameR s
    rw [hs] at hn
    rw [if_pos rfl]
    clear hs HN
    go_enter Try.func28, Try.ntmps28
    go_wp2_with (go_at_call 44; refine (hn _).mono ?_; rintro e w1 ⟨rfl, hb⟩; have HB := Aside0.mk hb; clear hb)
    go_ret
    exact ⟨rfl, .inl ⟨by decide, HR.out.below HB.out, HB.out⟩⟩
  | false =>
  cases ht : badName t with
  | true =>
    have hn := nameR s
    have hn2 := nameR t
    rw [hs] at hn
    rw [ht] at hn2
    rw [if_neg (by decide), if_pos rfl]
    clear hs ht HN
    go_enter Try.func28, Try.ntmps28
    go_wp2_with (first
      | (go_at_call 44; refine (hn _).mono ?_; clear hn; rintro e w1 ⟨rfl, hb⟩; have HB := Aside0.mk hb; clear hb)
      | (go_at_call 44; refine (hn2 _).mono ?_; rintro e w2 ⟨rfl, hb⟩; have HB2 := Aside0.mk (below_step HB.out hb); clear hb))
    go_ret
    exact ⟨rfl, .inl ⟨by decide, HR.out.below HB2.out, HB2.out⟩⟩
  | false =>
    have hn := nameR s
    have hn2 := nameR t
    rw [hs] at hn
    rw [ht] at hn2
    rw [if_neg (by decide), if_neg (by decide)]
    by_cases hk : findI r.dir s < 0
    · have b1 : decide (findI r.dir s < 0) = true := decide_eq_true hk
      rw [if_pos hk]
      have HF := Lib.hid (fun (w1 : World) (hb : Below w.heap.size w w1) => findRr (HED.out ▸ (HR.out.below hb).hi) s HDL.out)
      have HC := Lib.hid (fun (w1 : World) (hb : Below w.heap.size w w1) => (show w1.cell? ⟨r.gr, 1, none⟩ = some (.slice Ad r.dir.length cd) from HED.out ▸ blk_cell (HR.out.below hb).hd 1))
      clear hs ht HN hk
      generalize findI r.dir s = k at *
      go_enter Try.func28, Try.ntmps28
      go_wp2_with (first
        | (go_at_call 44; refine (hn _).mono ?_; clear hn; rintro e w1 ⟨rfl, hb⟩; have HB := Aside0.mk hb; clear hb)
        | (go_at_call 44; refine (hn2 _).mono ?_; clear hn2; rintro e w2 ⟨rfl, hb⟩; have HB2 := Aside0.mk (below_step HB.out hb); have hc := HC.out w2 HB2.out; clear hb)
        | (go_at_call 45; refine (HF.out w2 HB2.out).mono ?_; rintro e w3 ⟨rfl, hb⟩; have HB3 := Aside0.mk (below_step HB2.out hb); clear hb))
      go_ret
      exact ⟨rfl, .inl ⟨by decide, HR.out.below HB3.out, HB3.out⟩⟩
    · have b1 : decide (findI r.dir s < 0) = false := decide_eq_false hk
      rw [if_neg hk]
      have HF := Lib.hid (fun (w1 : World) (hb : Below w.heap.size w w1) => findRr (HED.out ▸ (HR.out.below hb).hi) s HDL.out)
      have HC := Lib.hid (fun (w1 : World) (hb : Below w.heap.size w w1) => (show w1.cell? ⟨r.gr, 1, none⟩ = some (.slice Ad r.dir.length cd) from HED.out ▸ blk_cell (HR.out.below hb).hd 1))
      have HD := Lib.hid (fun (w1 : World) (hb : Below w.heap.size w w1) => didC (HR.out.below hb) ⟨2, s, t, findI r.dir s⟩ HDL.out HLL.out)
      clear hs ht HN hk
      generalize findI r.dir s = k at *
      go_enter Try.func28, Try.ntmps28
      go_wp2_with (first
        | (go_at_call 44; refine (hn _).mono ?_; clear hn; rintro e w1 ⟨rfl, hb⟩; have HB := Aside0.mk hb; clear hb)
        | (go_at_call 44; refine (hn2 _).mono ?_; clear hn2; rintro e w2 ⟨rfl, hb⟩; have HB2 := Aside0.mk (below_step HB.out hb); have hc := HC.out w2 HB2.out; clear hb)
        | (go_at_call 45; refine (HF.out w2 HB2.out).mono ?_; rintro e w3 ⟨rfl, hb⟩; have HB3 := Aside0.mk (below_step HB2.out hb); clear hb)
        | (go_at_call 47; refine (HD.out w3 HB3.out).mono ?_; rintro e w4 ⟨rfl, v1, v2, hR, hG⟩; have HR4 := Aside0.mk hR; have HG4 := Aside0.mk hG; clear hR hG))
      go_ret
      exact ⟨rfl, .inr ⟨trivial, v1, v2, HR4.out, (RGoes.of_below r HB3.out).trans HG4.out (fun x hx => .inl hx)⟩⟩
def remRE (r : RSt) (s : ByteArray) : Int := if badName s = true then 20 else if findI r.dir s < 0 then 25 else 0
set_option maxHeartbeats 8000000 in
set_option maxRecDepth 100000 in
theorem remR {w : World} {r : RSt} (h : RAt w r) (s : ByteArray) (hd : r.dir.length ≤ 1000000) (hl : r.log.length ≤ 1000000) :
    Calls Try.prog 29 #[.pointer (some ⟨r.gr, 0, none⟩), .string s] w fun e w' => e = .returned (.int .i64 (remRE r s)) ∧ ((remRE r s ≠ 0 ∧ RAt w' r ∧ Below w.heap.size w w') ∨
      (remRE r s = 0 ∧ ∃ v1 v2, RAt w' { r with vd := v1, dir := doL r.dir ⟨3, s, ByteArray.empty, findI r.dir s⟩, vl := v2, log := r.log ++ [⟨3, s, ByteArray.empty, findI r.dir s⟩] } ∧ RGoes w r w' { r with vd := v1, dir := doL r.dir ⟨3, s, ByteArray.empty, findI r.dir s⟩, vl := v2, log := r.log ++ [⟨3, s, ByteArray.empty, findI r.dir s⟩] })) := by
  obtain ⟨Ad, cd, ed⟩ := Kd.R_slice h.hi
  have HED := Aside0.mk ed
  have HR := Aside0.mk h
  have HDL := Aside0.mk hd
  have HLL := Aside0.mk hl
  clear h hd hl ed
  unfold remRE
  cases hs : badName s with
  | true =>
    have hn := nameR s
    rw [hs] at hn
    rw [if_pos rfl]
    clear hs
    go_enter Try.func29, Try.ntmps29
    go_wp2_with (go_at_call 44; refine (hn _).mono ?_; rintro e w1 ⟨rfl, hb⟩; have HB := Aside0.mk hb; clear hb)
    go_ret
    exact ⟨rfl, .inl ⟨by decide, HR.out.below HB.out, HB.out⟩⟩
  | false =>
    have hn := nameR s
    rw [hs] at hn
    rw [if_neg (by decide)]
    have HF := Lib.hid (fun (w1 : World) (hb : Below w.heap.size w w1) => findRr (HED.out ▸ (HR.out.below hb).hi) s HDL.out)
    have HC := Lib.hid (fun (w1 : World) (hb : Below w.heap.size w w1) => (show w1.cell? ⟨r.gr, 1, none⟩ = some (.slice Ad r.dir.length cd) from HED.out ▸ blk_cell (HR.out.below hb).hd 1))
    have HD := Lib.hid (fun (w1 : World) (hb : Below w.heap.size w w1) => didC (HR.out.below hb) ⟨3, s, ByteArray.empty, findI r.dir s⟩ HDL.out HLL.out)
    by_cases hk : findI r.dir s < 0
    · have b1 : decide (findI r.dir s < 0) = true := decide_eq_true hk
      rw [if_pos hk]
      clear hs hk HD
      generalize findI r.dir s = k at *
      go_enter Try.func29, Try.ntmps29
      go_wp2_with (first
        | (go_at_call 44; refine (hn _).mono ?_; clear hn; rintro e w2 ⟨rfl, hb⟩; have HB2 := Aside0.mk hb; have hc := HC.out w2 HB2.out; clear hb)
        | (go_at_call 45; refine (HF.out w2 HB2.out).mono ?_; rintro e w3 ⟨rfl, hb⟩; have HB3 := Aside0.mk (below_step HB2.out hb); clear hb))
      go_ret
      exact ⟨rfl, .inl ⟨by decide, HR.out.below HB3.out, HB3.out⟩⟩
    · have b1 : decide (findI r.dir s < 0) = false := decide_eq_false hk
      rw [if_neg hk]
      clear hs hk
      generalize findI r.dir s = k at *
      go_enter Try.func29, Try.ntmps29
      go_wp2_with (first
        | (go_at_call 44; refine (hn _).mono ?_; clear hn; rintro e w2 ⟨rfl, hb⟩; have HB2 := Aside0.mk hb; have hc := HC.out w2 HB2.out; clear hb)
        | (go_at_call 45; refine (HF.out w2 HB2.out).mono ?_; rintro e w3 ⟨rfl, hb⟩; have HB3 := Aside0.mk (below_step HB2.out hb); clear hb)
        | (go_at_call 47; refine (HD.out w3 HB3.out).mono ?_; rintro e w4 ⟨rfl, v1, v2, hR, hG⟩; have HR4 := Aside0.mk hR; have HG4 := Aside0.mk hG; clear hR hG))
      go_ret
      exact ⟨rfl, .inr ⟨trivial, v1, v2, HR4.out, (RGoes.of_below r HB3.out).trans HG4.out (fun x hx => .inl hx)⟩⟩
theorem set_goes {w w' : World} {gr : Nat} {Af : Addr} {cf : Nat} {vd vs vl : Value} {fs : List RF} {dir safe : List S91} {log : List S88} {q : Int} {i : Nat} {gf : Nat} {x : Int} (hi : i < fs.length) (hk : Kept w w' (fun k => k = gf)) (hA : Af = ⟨gf, 0, none⟩) :
    RGoes w ⟨gr, .slice (some Af) fs.length cf, vd, vs, vl, fs, dir, safe, log, q⟩ w' ⟨gr, .slice (some Af) fs.length cf, vd, vs, vl, fs.set i { fs[i] with safe := x }, dir, safe, log, q⟩ := by
  subst hA
  refine ⟨hk.mono (fun k hk => .inr (by rw [hk]; rfl)), fun k hk => .inl ?_, rfl⟩
  rcases hk with hk | hk | hk | hk | hk | ⟨f, hf, hp, ad, hA, he⟩
  · exact .inl hk
  · exact .inr (.inl hk)
  · exact .inr (.inr (.inl hk))
  · exact .inr (.inr (.inr (.inl hk)))
  · exact .inr (.inr (.inr (.inr (.inl hk))))
  · rcases List.mem_or_eq_of_mem_set hf with hf | rfl
    · exact .inr (.inr (.inr (.inr (.inr ⟨f, hf, hp, ad, hA, he⟩))))
    · exact .inr (.inr (.inr (.inr (.inr ⟨fs[i], List.getElem_mem hi, hp, ad, hA, he⟩))))
set_option maxHeartbeats 8000000 in
set_option maxRecDepth 100000 in
theorem syncRNo {w : World} {r : RSt} (h : RAt w r) (s : ByteArray) (hd : r.dir.length ≤ 1000000) (hne : remRE r s ≠ 0) :
    Calls Try.prog 27 #[.pointer (some ⟨r.gr, 0, none⟩), .string s] w fun e w' => e = .returned (.int .i64 (remRE r s)) ∧ RAt w' r ∧ Below w.heap.size w w' := by
  obtain ⟨Ad, cd, ed⟩ := Kd.R_slice h.hi
  have HED := Aside0.mk ed
  have HR := Aside0.mk h
  have HDL := Aside0.mk hd
  clear h hd ed
  unfold remRE at *
  cases hs : badName s with
  | true =>
    have hn := nameR s
    rw [hs] at hn
    rw [if_pos rfl]
    clear hs hne
    go_enter Try.func27, Try.ntmps27
    go_wp2_with (go_at_call 44; refine (hn _).mono ?_; rintro e w1 ⟨rfl, hb⟩; have HB := Aside0.mk hb; clear hb)
    go_ret
    exact ⟨rfl, HR.out.below HB.out, HB.out⟩
  | false =>
    have hn := nameR s
    rw [hs] at hn
    rw [hs, if_neg (by decide)] at hne
    rw [if_neg (by decide)]
    have HF := Lib.hid (fun (w1 : World) (hb : Below w.heap.size w w1) => findRr (HED.out ▸ (HR.out.below hb).hi) s HDL.out)
    have HC := Lib.hid (fun (w1 : World) (hb : Below w.heap.size w w1) => (show w1.cell? ⟨r.gr, 1, none⟩ = some (.slice Ad r.dir.length cd) from HED.out ▸ blk_cell (HR.out.below hb).hd 1))
    have hk : findI r.dir s < 0 := Classical.byContradiction fun hc => hne (by rw [if_neg hc])
    have b1 : decide (findI r.dir s < 0) = true := decide_eq_true hk
    rw [if_pos hk]
    clear hs hk hne
    generalize findI r.dir s = k at *
    go_enter Try.func27, Try.ntmps27
    go_wp2_with (first
      | (go_at_call 44; refine (hn _).mono ?_; clear hn; rintro e w2 ⟨rfl, hb⟩; have HB2 := Aside0.mk hb; have hc := HC.out w2 HB2.out; clear hb)
      | (go_at_call 45; refine (HF.out w2 HB2.out).mono ?_; rintro e w3 ⟨rfl, hb⟩; have HB3 := Aside0.mk (below_step HB2.out hb); clear hb))
    go_ret
    exact ⟨rfl, HR.out.below HB3.out, HB3.out⟩
set_option maxHeartbeats 8000000 in
set_option maxRecDepth 100000 in
theorem syncROk {w : World} {r : RSt} (h : RAt w r) (s : ByteArray) (hd : r.dir.length ≤ 1000000) {i : Nat} (hb : badName s = false) (hf : findI r.dir s = (i : Int)) (hil : i < r.fs.length) :
    Calls Try.prog 27 #[.pointer (some ⟨r.gr, 0, none⟩), .string s] w fun e w' => e = .returned (.int .i64 0) ∧ RAt w' { r with fs := r.fs.set i { r.fs[i] with safe := (r.fs[i].bs.length : Int) } } ∧ RGoes w r w' { r with fs := r.fs.set i { r.fs[i] with safe := (r.fs[i].bs.length : Int) } } := by
  have hfc := fun (w1 : World) (hb : Below w.heap.size w w1) => (h.below hb).file_cells hil
  obtain ⟨gr, vf, vd, vs, vl, fs, dir, safe, log, q⟩ := r
  obtain ⟨Ad, cd, ed⟩ := Kd.R_slice h.hi
  simp only at ed hd hf hil hfc
  subst ed
  obtain ⟨gf, cf, ef, _⟩ := hfc w (Below.refl _ _)
  subst ef
  have HFC0 := Aside0.mk (fun (w1 : World) (hb : Below w.heap.size w w1) => (show w1.cell? ⟨gf, i * 2, none⟩ = some (.slice fs[i].A fs[i].bs.length fs[i].c) ∧ w1.cell? ⟨gf, i * 2 + 1, none⟩ = some (.int .i64 fs[i].safe) ∧ ∀ j, w1.frozen? ⟨gf, j, none⟩ = false from by
    obtain ⟨g2, c2, e2, h1, h2, h3⟩ := hfc w1 hb
    injection e2 with e2
    injection e2 with e2
    injection e2 with e2
    subst e2
    exact ⟨h1, h2, h3⟩))
  have HR := Aside0.mk h
  have hn := nameR s
  rw [hb] at hn
  have HF := Lib.hid (fun (w1 : World) (hb : Below w.heap.size w w1) => findRr (HR.out.below hb).hi s hd)
  simp only [hf] at HF
  have HC := Lib.hid (fun (w1 : World) (hb : Below w.heap.size w w1) => (show w1.cell? ⟨gr, 1, none⟩ = some (.slice Ad dir.length cd) from blk_cell (HR.out.below hb).hd 1))
  have b1 : decide ((i : Int) < 0) = false := decide_eq_false (by omega)
  clear h hd hb hf hfc
  go_enter Try.func27, Try.ntmps27
  go_upto_region 6 with (first
    | (go_at_call 44; refine (hn _).mono ?_; clear hn; rintro e w1 ⟨rfl, hb⟩; have HB1 := Aside0.mk hb; have hc := HC.out w1 HB1.out; clear hb)
    | (go_at_call 45; refine (HF.out w1 HB1.out).mono ?_; rintro e w2 ⟨rfl, hb⟩; have HB2 := Aside0.mk (below_step HB1.out hb); clear hb))
  have HR2 := Aside0.mk (HR.out.below HB2.out)
  have HFC := Aside0.mk (fun (w1 : World) (hb : Below w2.heap.size w2 w1) => HFC0.out w1 (below_step HB2.out hb))
  clear hc HC HF HFC0 HR
  refine hstart (fun w' => Below w2.heap.size w2 w') [16] 17 (by kernel_rfl) rfl (by kernel_rfl) (below_drew (Below.refl _ _)) (fun w_ hw_ s_ => ?_)
  clear hw_
  refine hpure 0 (some 17) 1 [] (v := ?_) (a' := ?_) s_ rfl rfl (by kernel_rfl) (Or.inl ⟨by rfl, ?_⟩) ?_ ?_
  rotate_left
  · intro w' s0; go_simp; with_reducible rfl
  rotate_left
  · simp only [Act.put, List.setIfInBounds_toArray, List.set_cons_zero, List.set_cons_succ, i64_w, i32_w]; rfl
  refine hpure 1 (some 18) 2 [] (v := ?_) (a' := ?_) s_ rfl rfl (by kernel_rfl) (Or.inl ⟨by rfl, ?_⟩) ?_ ?_
  rotate_left
  · intro w' s0; go_simp; with_reducible rfl
  rotate_left
  · simp only [Act.put, List.setIfInBounds_toArray, List.set_cons_zero, List.set_cons_succ, i64_w, i32_w]; rfl
  refine hpure 2 (some 19) 3 [] (v := ?_) (a' := ?_) s_ rfl rfl (by kernel_rfl) (Or.inl ⟨by rfl, ?_⟩) ?_ ?_
  rotate_left
  · intro w' s0; go_simp; with_reducible rfl
  rotate_left
  · simp only [Act.put, List.setIfInBounds_toArray, List.set_cons_zero, List.set_cons_succ, i64_w, i32_w]; rfl
  refine hpure 3 (some 20) 4 [] (v := ?_) (a' := ?_) s_ rfl rfl (by kernel_rfl) (Or.inl ⟨by rfl, ?_⟩) ?_ ?_
  rotate_left
  · intro w' s0; have s1 : w'.cell? ⟨gr, 0, none⟩ = some (.slice (some ⟨gf, 0, none⟩) fs.length cf) := blk_cell (HR2.out.below s0).hd 0; go_simp; with_reducible rfl
  rotate_left
  · simp only [Act.put, List.setIfInBounds_toArray, List.set_cons_zero, List.set_cons_succ, i64_w, i32_w]; rfl
  refine hpure 4 (some 21) 5 [] (v := ?_) (a' := ?_) s_ rfl rfl (by kernel_rfl) (Or.inl ⟨by rfl, ?_⟩) ?_ ?_
  rotate_left
  · intro w' s0; go_simp; with_reducible rfl
  rotate_left
  · simp only [Act.put, List.setIfInBounds_toArray, List.set_cons_zero, List.set_cons_succ, i64_w, i32_w]; rfl
  refine hpure 5 (some 22) 6 [] (v := ?_) (a' := ?_) s_ rfl rfl (by kernel_rfl) (Or.inl ⟨by rfl, ?_⟩) ?_ ?_
  rotate_left
  · intro w' s0; go_simp; with_reducible rfl
  rotate_left
  · simp only [Act.put, List.setIfInBounds_toArray, List.set_cons_zero, List.set_cons_succ, i64_w, i32_w]; rfl
  refine hpure 6 (some 23) 7 [] (v := ?_) (a' := ?_) s_ rfl rfl (by kernel_rfl) (Or.inl ⟨by rfl, ?_⟩) ?_ ?_
  rotate_left
  · intro w' s0; go_simp; with_reducible rfl
  rotate_left
  · simp only [Act.put, List.setIfInBounds_toArray, List.set_cons_zero, List.set_cons_succ, i64_w, i32_w]; rfl
  refine hpure 7 (some 24) 8 [] (v := ?_) (a' := ?_) s_ rfl rfl (by kernel_rfl) (Or.inl ⟨by rfl, ?_⟩) ?_ ?_
  rotate_left
  · intro w' s0; go_simp; with_reducible rfl
  rotate_left
  · simp only [Act.put, List.setIfInBounds_toArray, List.set_cons_zero, List.set_cons_succ, i64_w, i32_w]; rfl
  refine hpure 8 (some 25) 9 [] (v := ?_) (a' := ?_) s_ rfl rfl (by kernel_rfl) (Or.inl ⟨by rfl, ?_⟩) ?_ ?_
  rotate_left
  · intro w' s0; have s1 : w'.cell? ⟨gr, 0, none⟩ = some (.slice (some ⟨gf, 0, none⟩) fs.length cf) := blk_cell (HR2.out.below s0).hd 0; go_simp; with_reducible rfl
  rotate_left
  · simp only [Act.put, List.setIfInBounds_toArray, List.set_cons_zero, List.set_cons_succ, i64_w, i32_w]; rfl
  refine hpure 9 (some 26) 10 [] (v := ?_) (a' := ?_) s_ rfl rfl (by kernel_rfl) (Or.inl ⟨by rfl, ?_⟩) ?_ ?_
  rotate_left
  · intro w' s0; go_simp; with_reducible rfl
  rotate_left
  · simp only [Act.put, List.setIfInBounds_toArray, List.set_cons_zero, List.set_cons_succ, i64_w, i32_w]; rfl
  refine hpure 10 (some 27) 11 [] (v := ?_) (a' := ?_) s_ rfl rfl (by kernel_rfl) (Or.inl ⟨by rfl, ?_⟩) ?_ ?_
  rotate_left
  · intro w' s0; go_simp; with_reducible rfl
  rotate_left
  · simp only [Act.put, List.setIfInBounds_toArray, List.set_cons_zero, List.set_cons_succ, i64_w, i32_w]; rfl
  refine hpure 11 (some 28) 12 [] (v := ?_) (a' := ?_) s_ rfl rfl (by kernel_rfl) (Or.inl ⟨by rfl, ?_⟩) ?_ ?_
  rotate_left
  · intro w' s0; go_simp; with_reducible rfl
  rotate_left
  · simp only [Act.put, List.setIfInBounds_toArray, List.set_cons_zero, List.set_cons_succ, i64_w, i32_w]; rfl
  refine hpure 12 (some 29) 13 [] (v := ?_) (a' := ?_) s_ rfl rfl (by kernel_rfl) (Or.inl ⟨by rfl, ?_⟩) ?_ ?_
  rotate_left
  · intro w' s0; have s1 : w'.cell? ⟨gf, i * 2, none⟩ = some (.slice fs[i].A fs[i].bs.length fs[i].c) := (HFC.out _ s0).1; go_simp; with_reducible rfl
  rotate_left
  · simp only [Act.put, List.setIfInBounds_toArray, List.set_cons_zero, List.set_cons_succ, i64_w, i32_w]; rfl
  refine hpure 13 (some 30) 14 [] (v := ?_) (a' := ?_) s_ rfl rfl (by kernel_rfl) (Or.inl ⟨by rfl, ?_⟩) ?_ ?_
  rotate_left
  · intro w' s0; go_simp; with_reducible rfl
  rotate_left
  · simp only [Act.put, List.setIfInBounds_toArray, List.set_cons_zero, List.set_cons_succ, i64_w, i32_w]; rfl
  refine hpure 14 (some 31) 15 [] (v := ?_) (a' := ?_) s_ rfl rfl (by kernel_rfl) (Or.inl ⟨by rfl, ?_⟩) ?_ ?_
  rotate_left
  · intro w' s0; go_simp; with_reducible rfl
  rotate_left
  · simp only [Act.put, List.setIfInBounds_toArray, List.set_cons_zero, List.set_cons_succ, i64_w, i32_w]; rfl
  refine hpure 15 (some 32) 16 [] (v := ?_) (a' := ?_) s_ rfl rfl (by kernel_rfl) (Or.inl ⟨by rfl, ?_⟩) ?_ ?_
  rotate_left
  · intro w' s0; go_simp; with_reducible rfl
  rotate_left
  · simp only [Act.put, List.setIfInBounds_toArray, List.set_cons_zero, List.set_cons_succ, i64_w, i32_w]; rfl
  refine hone 16 none 17 [] rfl rfl (by kernel_rfl) (fun K hK => ?_)
  have hcz : w_.cell? ⟨gf, i * 2 + 1, none⟩ = some (.int .i64 fs[i].safe) := (HFC.out w_ s_).2.1
  have hfz : w_.frozen? ⟨gf, i * 2 + 1, none⟩ = false := (HFC.out w_ s_).2.2 _
  refine skip_ (w1 := w_.setCell ⟨gf, i * 2 + 1, none⟩ (.int .i64 (fs[i].bs.length : Int))) ?hp1 ?aL1 ?hr1 ?_
  case hp1 => rfl
  case aL1 => rfl
  case hr1 => go_simp
  refine hK.out (fun _ => False) _ _ (fun _ h => h.elim) (fun hn => absurd (by decide) hn) ?_
  clear hK K
  refine hdone (by kernel_rfl) ?_
  have HRs := Aside0.mk ((HR2.out.below s_).set_safe hil (n := (fs[i].bs.length : Int)) rfl)
  have HKs := Aside0.mk (show Kept w (w_.setCell ⟨gf, i * 2 + 1, none⟩ (.int .i64 (fs[i].bs.length : Int))) (fun k => k = gf) from Kept.of_grown (grown_set (Below.refl _ _) gf _ _) ((Kept.of_below HB2.out _).below s_) (fun k hk => by injection hk with hk; exact .inl hk.symm))
  go_wp2
  go_ret
  exact ⟨rfl, HRs.out, set_goes hil HKs.out rfl⟩
end Go.Proofs.Ytoninmgglcepmaa.Dk

namespace Go.Proofs.Ytoninmgglcepmaa.Dk
open Go.ChangeMaps hiding rd
open RegD Go.RowKit Go.Proofs.YtoninmgglcepmaaW.PrintWords Go.Proofs.YtoninmgglcepmaaW.PrintLast Go.Proofs.YtoninmgglcepmaaW.PrintMore Mp QDiskPlays
attribute [local go_sem] max2_int min2_int max_two min_two max_three min_three max_four min_four
set_option linter.unusedVariables false
set_option linter.unusedSimpArgs false
def syncR (r : RSt) (v : Value) : RSt := { r with vs := v, safe := r.dir, vl := .slice none 0 0, log := [] }
set_option maxHeartbeats 8000000 in
set_option maxRecDepth 100000 in
theorem syncDirR {w : World} {r : RSt} (h : RAt w r) (hd : r.dir.length ≤ 1000000) : Calls Try.prog 30 #[.pointer (some ⟨r.gr, 0, none⟩)] w fun e w' => e = .returned (.tuple #[]) ∧ ∃ v, RAt w' (syncR r v) ∧ RGoes w r w' (syncR r v) := by
  obtain ⟨gr, vf, vd, vs, vl, fs, dir, safe, log, q⟩ := r
  obtain ⟨Ad, cd, ed⟩ := Kd.R_slice h.hi
  obtain ⟨As, cs, es⟩ := Kd.R_slice h.hs
  obtain ⟨Al, cl, el⟩ := Kd.R_slice h.hl
  simp only at ed es el hd
  subst ed es el
  have HR := Aside0.mk h
  have HDL := Aside0.mk hd
  have HC := Aside0.mk (fun (w1 : World) (hb : Below w.heap.size w w1) => (⟨blk_cell (HR.out.below hb).hd 1, blk_cell (HR.out.below hb).hd 2, blk_frozen (HR.out.below hb).hd 2, blk_cell (HR.out.below hb).hd 3, blk_frozen (HR.out.below hb).hd 3⟩ : w1.cell? ⟨gr, 1, none⟩ = some (.slice Ad dir.length cd) ∧ w1.cell? ⟨gr, 2, none⟩ = some (.slice As safe.length cs) ∧ w1.frozen? ⟨gr, 2, none⟩ = false ∧ w1.cell? ⟨gr, 3, none⟩ = some (.slice Al log.length cl) ∧ w1.frozen? ⟨gr, 3, none⟩ = false))
  clear h hd
  go_enter Try.func30, Try.ntmps30
  go_wp2_with (first
    | ((with_reducible refine gate_dst (N := 3) rfl ?_); refine Kd.R_lit k91 (w0 := w) w.heap.size 91 ?hg (N := 3) ?hd (xs := ([] : List S91)) (inner := []) (ok := fun _ => True) (okp := fun _ => True) ?hr ?hp (fun _ hk => hk) trivial (Below.refl w.heap.size w) (Below.refl w.heap.size w).size (by simp) ?_; (case hd => rfl); (case hg => rfl); (case hr => first | (go_simp; done) | (go_simp; rfl)); (case hp => exact (Reps.none _ _)); intro v1 w1 ho_ hb_ hg_ hn_; clear hg_ hn_; have HO1 := Aside0.mk ho_; have HO1b := Aside0.mk hb_; obtain ⟨hc1, hc2, hf2, hc3, hf3⟩ := HC.out w1 hb_; clear ho_ hb_)
    | ((with_reducible refine gate_builtin (b := .append) (xs := #[.tmp 3, .tmp 7]) rfl ?_); at_builtin; refine Kd.R_append_rows k91 (w0 := w) w.heap.size rfl (.tmp 3) (.tmp 7) 77 91 (.agg #[(.string ⟨#[]⟩), (.int .i64 0)]) 24 rfl Try.underlying77 info91 rfl (by decide) (by decide) v1 ([] : List S91) dir _ _ _ (fun _ => True) (fun _ => False) rfl rfl HO1.out (Kd.R_reads' (HR.out.below HO1b.out).hi).2.2 (fun x cs h => by rw [k91_open h]; exact k91_mkM _ _ _ x) (fun _ h => h.elim) (fun _ _ => trivial) HO1b.out HO1b.out.size (by have := HDL.out; show (0 + dir.length) * 24 ≤ _; omega) ?_; intro v2 w2 ho_ hb_ hg_ hn_; clear hg_ hn_; obtain ⟨Av2, cv2, ev2⟩ := Kd.R_slice ho_; subst ev2; have HO2 := Aside0.mk ho_; have HO2b := Aside0.mk hb_; replace ho_ : k91.R 91 w2 w.heap.size (fun _ => True) (.slice Av2 dir.length cv2) dir := ho_; obtain ⟨hd1, hd2, hd3, hd4, hd5⟩ := HC.out w2 hb_; have HZ1 := Aside0.mk (HR.out.put_safe hb_ (Kd.R_lower ho_ (Nat.zero_le _))); have he3 := blk_cell HZ1.out.hd 3; have hf3' := blk_frozen HZ1.out.hd 3; clear hc1 hc2 hf2 hc3 hf3 ho_ hb_))
  go_end0
  have HZ2 := HZ1.out.put_log (Below.refl _ _) (Kd.R_nil k88 88 _ 0 (fun _ => True))
  refine ⟨rfl, _, HZ2, Kept.of_grown (grown_set (Below.refl _ _) gr 3 _) (Kept.of_grown (grown_set (Below.refl w2.heap.size w2) gr 2 _) (Kept.of_below HO2b.out _) (fun k hk => by injection hk with hk; exact .inl (.inl hk.symm))) (fun k hk => by injection hk with hk; exact .inl (.inl hk.symm)), fun k hk => ?_, rfl⟩
  rcases hk with hk | hk | hk | hk | hk | hk
  · exact .inl (.inl hk)
  · exact .inl (.inr (.inl hk))
  · exact .inl (.inr (.inr (.inl hk)))
  · exact .inr (Kd.R_base HO2.out k hk)
  · cases hk
  · exact .inl (.inr (.inr (.inr (.inr (.inr hk)))))
theorem RAt.dir_cells {w : World} {r : RSt} (h : RAt w r) {i : Nat} (hi : i < r.dir.length) : ∃ g c, r.vd = .slice (some ⟨g, 0, none⟩) r.dir.length c ∧ w.cell? ⟨g, i * 2, none⟩ = some (.string r.dir[i].f0) ∧ w.cell? ⟨g, i * 2 + 1, none⟩ = some (.int .i64 r.dir[i].f1) := by
  obtain ⟨g, c, e, _, _, cs, hcs⟩ := Kd.R_form h.hi (by omega)
  obtain ⟨cc, hcl, hM, hcc, _⟩ := Kd.R_elem (e ▸ h.hi) z91 (i : Int) (by omega) (by omega)
  have hx : r.dir.getD (i : Int).toNat z91 = r.dir[i] := by rw [Int.toNat_natCast, List.getD_eq_getElem?_getD, List.getElem?_eq_getElem hi]; rfl
  rw [hx] at hM
  have := k91_openM hM
  subst this
  exact ⟨g, c, e, hcc 0 _ rfl, hcc 1 _ rfl⟩
/-! Read -/
set_option maxHeartbeats 8000000 in
set_option maxRecDepth 100000 in
theorem readRNo {w : World} {r : RSt} (h : RAt w r) (s : ByteArray) (hd : r.dir.length ≤ 1000000) (hne : remRE r s ≠ 0) :
    Calls Try.prog 50 #[.pointer (some ⟨r.gr, 0, none⟩), .string s] w fun e w' => e = .returned (.tuple #[.slice none 0 0, .int .i64 (remRE r s)]) ∧ Below w.heap.size w w' := by
  obtain ⟨Ad, cd, ed⟩ := Kd.R_slice h.hi
  have HED := Aside0.mk ed
  have HR := Aside0.mk h
  have HDL := Aside0.mk hd
  clear h hd ed
  unfold remRE at *
  cases hs : badName s with
  | true =>
    have hn := nameR s
    rw [hs] at hn
    rw [if_pos rfl]
    clear hs hne
    go_enter Try.func50, Try.ntmps50
    go_wp2_with (go_at_call 44; refine (hn _).mono ?_; rintro e w1 ⟨rfl, hb⟩; have HB := Aside0.mk hb; clear hb)
    go_ret2
    exact ⟨rfl, HB.out⟩
  | false =>
    have hn := nameR s
    rw [hs] at hn
    rw [hs, if_neg (by decide)] at hne
    rw [if_neg (by decide)]
    have HF := Lib.hid (fun (w1 : World) (hb : Below w.heap.size w w1) => findRr (HED.out ▸ (HR.out.below hb).hi) s HDL.out)
    have HC := Lib.hid (fun (w1 : World) (hb : Below w.heap.size w w1) => (show w1.cell? ⟨r.gr, 1, none⟩ = some (.slice Ad r.dir.length cd) from HED.out ▸ blk_cell (HR.out.below hb).hd 1))
    have hk : findI r.dir s < 0 := Classical.byContradiction fun hc => hne (by rw [if_neg hc])
    have b1 : decide (findI r.dir s < 0) = true := decide_eq_true hk
    rw [if_pos hk]
    clear hs hk hne
    generalize findI r.dir s = k at *
    go_enter Try.func50, Try.ntmps50
    go_wp2_with (first
      | (go_at_call 44; refine (hn _).mono ?_; clear hn; rintro e w2 ⟨rfl, hb⟩; have HB2 := Aside0.mk hb; have hc := HC.out w2 HB2.out; clear hb)
      | (go_at_call 45; refine (HF.out w2 HB2.out).mono ?_; rintro e w3 ⟨rfl, hb⟩; have HB3 := Aside0.mk (below_step HB2.out hb); clear hb))
    go_ret2
    exact ⟨rfl, HB3.out⟩
theorem file_at {w : World} {gr gf cf i : Nat} {vd vs vl : Value} {fs : List RF} {dir safe : List S91} {log : List S88} {q : Int} (h : RAt w ⟨gr, .slice (some ⟨gf, 0, none⟩) fs.length cf, vd, vs, vl, fs, dir, safe, log, q⟩) (hi : i < fs.length) :
    w.cell? ⟨gf, i * 2, none⟩ = some (.slice fs[i].A fs[i].bs.length fs[i].c) ∧ w.cell? ⟨gf, i * 2 + 1, none⟩ = some (.int .i64 fs[i].safe) ∧ ∀ j, w.frozen? ⟨gf, j, none⟩ = false := by
  obtain ⟨g2, c2, e2, h1, h2, h3⟩ := h.file_cells hi
  injection e2 with e2
  injection e2 with e2
  injection e2 with e2
  subst e2
  exact ⟨h1, h2, h3⟩
theorem dir_at {w : World} {gr gi ci i : Nat} {vf vs vl : Value} {fs : List RF} {dir safe : List S91} {log : List S88} {q : Int} (h : RAt w ⟨gr, vf, .slice (some ⟨gi, 0, none⟩) dir.length ci, vs, vl, fs, dir, safe, log, q⟩) (hi : i < dir.length) :
    w.cell? ⟨gi, i * 2, none⟩ = some (.string dir[i].f0) ∧ w.cell? ⟨gi, i * 2 + 1, none⟩ = some (.int .i64 dir[i].f1) := by
  obtain ⟨g2, c2, e2, h1, h2⟩ := h.dir_cells hi
  injection e2 with e2
  injection e2 with e2
  injection e2 with e2
  subst e2
  exact ⟨h1, h2⟩
set_option maxHeartbeats 8000000 in
set_option maxRecDepth 100000 in
theorem readROk {w : World} {r : RSt} (h : RAt w r) (s : ByteArray) (hd : r.dir.length ≤ 1000000) {i : Nat} (hb : badName s = false) (hf : findI r.dir s = (i : Int)) (hil : i < r.fs.length) (hbl : r.fs[i].bs.length ≤ 1000000) :
    Calls Try.prog 50 #[.pointer (some ⟨r.gr, 0, none⟩), .string s] w fun e w' => ∃ v : Value, e = .returned (.tuple #[v, .int .i64 0]) ∧ Kd.R (Kd.int .u8) 5 w' w.heap.size (fun _ => True) v r.fs[i].bs ∧ Below w.heap.size w w' := by
  obtain ⟨gr, vf, vd, vs, vl, fs, dir, safe, log, q⟩ := r
  obtain ⟨Ad, cd, ed⟩ := Kd.R_slice h.hi
  simp only at ed hd hf hil hbl
  subst ed
  obtain ⟨gf, cf, ef, _⟩ := h.file_cells hil
  simp only at ef
  subst ef
  have HR := Aside0.mk h
  have HBL := Aside0.mk hbl
  have hn := nameR s
  rw [hb] at hn
  have HF := Lib.hid (fun (w1 : World) (hb : Below w.heap.size w w1) => findRr (HR.out.below hb).hi s hd)
  simp only [hf] at HF
  have HC := Lib.hid (fun (w1 : World) (hb : Below w.heap.size w w1) => (show w1.cell? ⟨gr, 1, none⟩ = some (.slice Ad dir.length cd) from blk_cell (HR.out.below hb).hd 1))
  have b1 : decide ((i : Int) < 0) = false := decide_eq_false (by omega)
  clear h hd hb hf hbl
  go_enter Try.func50, Try.ntmps50
  go_wp2_with (first
    | (go_at_call 44; refine (hn _).mono ?_; clear hn; rintro e w1 ⟨rfl, hb⟩; have HB1 := Aside0.mk hb; have hc := HC.out w1 HB1.out; clear hb)
    | (go_at_call 45; refine (HF.out w1 HB1.out).mono ?_; rintro e w2 ⟨rfl, hb⟩; have HB2 := Aside0.mk (below_step HB1.out hb); clear hb hc)
    | ((with_reducible refine gate_dst (N := 18) rfl ?_); refine Kd.R_lit (Kd.int .u8) (w0 := w) w.heap.size 5 ?hg (N := 18) ?hd (xs := ([] : List Int)) (inner := []) (ok := fun _ => True) (okp := fun _ => True) ?hr ?hp (fun _ hk => hk) trivial HB2.out HB2.out.size (by simp) ?_; (case hd => rfl); (case hg => rfl); (case hr => first | (go_simp; done) | (go_simp; rfl)); (case hp => exact (Reps.none _ _)); intro v3 w3 ho_ hb_ hg_ hn_; clear hg_ hn_; have HO3 := Aside0.mk ho_; have HO3b := Aside0.mk hb_; have hz0 : w3.cell? ⟨gr, 0, none⟩ = some (.slice (some ⟨gf, 0, none⟩) fs.length cf) := blk_cell (HR.out.below hb_).hd 0; have hz1 := (file_at (HR.out.below hb_) hil).1; clear ho_ hb_)
    | ((with_reducible refine gate_builtin (b := .append) (xs := #[.tmp 18, .tmp 26]) rfl ?_); at_builtin; refine Kd.R_append_rows (Kd.int .u8) (w0 := w) w.heap.size rfl (.tmp 18) (.tmp 26) 29 5 (.int .u8 0) 1 rfl Try.underlying29 info5 rfl (by decide) (by decide) v3 ([] : List Int) fs[i].bs _ _ _ (fun _ => True) (fun _ => False) rfl rfl HO3.out ((HR.out.below HO3b.out).hb _ (List.getElem_mem hil)).1 (fun _ _ h => h) (fun _ h => h.elim) (fun _ _ => trivial) HO3b.out HO3b.out.size (by have := HBL.out; show (0 + fs[i].bs.length) * 1 ≤ _; omega) ?_; intro v4 w4 ho_ hb_ hg_ hn_; clear hg_ hn_; obtain ⟨Av4, cv4, ev4⟩ := Kd.R_slice ho_; subst ev4; have HO4 := Aside0.mk ho_; have HO4b := Aside0.mk hb_; clear ho_ hb_))
  go_ret2
  exact ⟨_, rfl, HO4.out, HO4b.out⟩
end Go.Proofs.Ytoninmgglcepmaa.Dk

namespace Go.Proofs.Ytoninmgglcepmaa.Dk
open Go.ChangeMaps hiding rd
open RegD Go.RowKit Go.Proofs.YtoninmgglcepmaaW.PrintWords Go.Proofs.YtoninmgglcepmaaW.PrintLast Go.Proofs.YtoninmgglcepmaaW.PrintMore Mp QDiskPlays
attribute [local go_sem] max2_int min2_int max_two min_two max_three min_three max_four min_four
set_option linter.unusedVariables false
set_option linter.unusedSimpArgs false
def lenAt (fs : List RF) (n : Int) : Nat := (fs.getD n.toNat ⟨none, 0, [], 0⟩).bs.length
def sumR (fs : List RF) (l : List S91) : Nat := (l.map fun e => lenAt fs e.f1).sum
theorem sumR_take (fs : List RF) (l : List S91) {i : Nat} (hi : i < l.length) : sumR fs (l.take (i + 1)) = sumR fs (l.take i) + lenAt fs l[i].f1 := by
  have : l.take (i + 1) = l.take i ++ [l[i]] := by rw [List.take_add_one, List.getElem?_eq_getElem hi]; rfl
  rw [this, sumR, List.map_append, List.sum_append]
  rfl
theorem sumR_le (fs : List RF) (l : List S91) (i : Nat) : sumR fs (l.take i) ≤ sumR fs l := by
  have : sumR fs l = sumR fs (l.take i) + sumR fs (l.drop i) := by
    rw [sumR, sumR, sumR, ← List.sum_append, ← List.map_append, List.take_append_drop]
  omega
set_option maxHeartbeats 8000000 in
set_option maxRecDepth 100000 in
theorem bytesR {w : World} {r : RSt} (h : RAt w r) (hd : r.dir.length ≤ 1000000) (hok : ∀ e ∈ r.dir, ∃ j : Nat, e.f1 = (j : Int) ∧ j < r.fs.length) (hs : sumR r.fs r.dir ≤ 1152921504606846976) :
    Calls Try.prog 46 #[.pointer (some ⟨r.gr, 0, none⟩)] w fun e w' => e = .returned (.int .i64 (sumR r.fs r.dir : Nat)) ∧ Below w.heap.size w w' := by
  obtain ⟨gr, vf, vd, vs, vl, fs, dir, safe, log, q⟩ := r
  obtain ⟨Ad, cd, ed⟩ := Kd.R_slice h.hi
  obtain ⟨Af, cf, ef⟩ := Kd.R_slice h.hf
  simp only at ed ef hd hok hs
  subst ed ef
  have HR := Aside0.mk h
  have HDL := Aside0.mk hd
  have HOK := Aside0.mk hok
  have HS := Aside0.mk hs
  clear h hd hok hs
  go_enter Try.func46, Try.ntmps46
  go_wp2
  go_loopg [3, 4] (dir.length + 1) (fun kq v3 v4 w' => ∃ i : Nat, v3 = .int .i64 ((sumR fs (dir.take i) : Nat) : Int) ∧ v4 = .int .i64 (i : Int) ∧ Aside0 (i ≤ dir.length ∧ dir.length + 1 ≤ kq + i) ∧ Aside0 (Below w.heap.size w w'))
  case atStart => exact ⟨0, rfl, rfl, ⟨by omega⟩, ⟨Below.refl _ _⟩⟩
  case round =>
    obtain ⟨i, rfl, rfl, HI, HB⟩ := hrel
    obtain ⟨k1, rfl⟩ : ∃ k1, gk = k1 + 1 := ⟨gk - 1, by have := HI.out; omega⟩
    have HRr := Aside0.mk (HR.out.below HB.out)
    have hz1 : wr.cell? ⟨gr, 1, none⟩ = some (.slice Ad dir.length cd) := blk_cell HRr.out.hd 1
    by_cases hi : i < dir.length
    · obtain ⟨gi, ci, e2, -⟩ := HRr.out.dir_cells hi
      injection e2 with e2
      subst e2
      obtain ⟨j, hj, hjl⟩ := HOK.out _ (List.getElem_mem hi)
      obtain ⟨gf, cf2, e3, -⟩ := HRr.out.file_cells hjl
      injection e3 with e3
      subst e3
      have hd1 := (dir_at HRr.out hi).2
      rw [hj] at hd1
      have hz0 : wr.cell? ⟨gr, 0, none⟩ = some (.slice (some ⟨gf, 0, none⟩) fs.length cf) := blk_cell HRr.out.hd 0
      have hf0 := (file_at HRr.out hjl).1
      have hla : lenAt fs dir[i].f1 = fs[j].bs.length := by rw [lenAt, hj, Int.toNat_natCast, List.getD_eq_getElem?_getD, List.getElem?_eq_getElem hjl]; rfl
      have hst : ((sumR fs (dir.take i) : Nat) : Int) + (fs[j].bs.length : Int) = ((sumR fs (dir.take (i + 1)) : Nat) : Int) := by rw [sumR_take fs dir hi, hla]; omega
      have hsb := sumR_le fs dir (i + 1)
      have hwn : IntKind.i64.wrap (((sumR fs (dir.take i) : Nat) : Int) + (fs[j].bs.length : Int)) = ((sumR fs (dir.take (i + 1)) : Nat) : Int) := by rw [hst, IntKind.wrap_i64]; have := HS.out; omega
      have hwi : IntKind.i64.wrap ((i : Int) + 1) = ((i + 1 : Nat) : Int) := by have := HDL.out; rw [IntKind.wrap_i64]; omega
      have HI2 : Aside0 (i + 1 ≤ dir.length ∧ dir.length + 1 ≤ k1 + (i + 1)) := ⟨by have := HI.out; omega⟩
      clear hst hla hsb hj
      go_wp2
      repeat (go_quiet (fail); try go_wp2)
      go_roundg k1
      case measure => have := HI2.out; omega
      case rel => exact ⟨i + 1, by first | rfl | (rw [hwn]) | (simp only [hwn]; done), by first | rfl | (rw [hwi]) | (simp only [hwi]; done), HI2, ⟨pw_below_drewN HB.out _⟩⟩
    · have hii : i = dir.length := by have := HI.out; omega
      subst hii
      have b1 : decide (dir.length < dir.length) = false := decide_eq_false (by omega)
      rw [List.take_length]
      clear hi
      go_wp2
      go_ret
      exact ⟨rfl, HB.out⟩
def namesR (l : List S91) : List ByteArray := l.map (·.f0)
theorem namesR_take (l : List S91) {i : Nat} (hi : i < l.length) : namesR (l.take (i + 1)) = namesR (l.take i) ++ [l[i].f0] := by
  have : l.take (i + 1) = l.take i ++ [l[i]] := by rw [List.take_add_one, List.getElem?_eq_getElem hi]; rfl
  rw [this, namesR, List.map_append]
  rfl
set_option maxHeartbeats 8000000 in
set_option maxRecDepth 100000 in
theorem listR {w : World} {r : RSt} (h : RAt w r) (hd : r.dir.length ≤ 1000000) :
    Calls Try.prog 49 #[.pointer (some ⟨r.gr, 0, none⟩)] w fun e w' => ∃ v : Value, e = .returned v ∧ Kd.R Kd.string 9 w' w.heap.size (fun _ => True) v (namesR r.dir) ∧ Below w.heap.size w w' := by
  obtain ⟨gr, vf, vd, vs, vl, fs, dir, safe, log, q⟩ := r
  obtain ⟨Ad, cd, ed⟩ := Kd.R_slice h.hi
  simp only at ed hd
  subst ed
  have HR := Aside0.mk h
  have HDL := Aside0.mk hd
  clear h hd
  go_enter Try.func49, Try.ntmps49
  go_wp2
  go_loopg [3, 4] (dir.length + 1) (fun kq v3 v4 w' => ∃ i : Nat, v4 = .int .i64 (i : Int) ∧ Aside0 (i ≤ dir.length ∧ dir.length + 1 ≤ kq + i) ∧ Aside0 (Kd.R Kd.string 9 w' w.heap.size (fun _ => True) v3 (namesR (dir.take i))) ∧ Aside0 (Below w.heap.size w w'))
  case atStart => exact ⟨0, rfl, ⟨by omega⟩, ⟨Kd.R_nil _ _ _ _ _⟩, ⟨Below.refl _ _⟩⟩
  case round =>
    obtain ⟨i, rfl, HI, HO, HB⟩ := hrel
    obtain ⟨k1, rfl⟩ : ∃ k1, gk = k1 + 1 := ⟨gk - 1, by have := HI.out; omega⟩
    have HRr := Aside0.mk (HR.out.below HB.out)
    have hz1 : wr.cell? ⟨gr, 1, none⟩ = some (.slice Ad dir.length cd) := blk_cell HRr.out.hd 1
    by_cases hi : i < dir.length
    · obtain ⟨gi, ci, e2, -⟩ := HRr.out.dir_cells hi
      injection e2 with e2
      subst e2
      have hd1 := (dir_at HRr.out hi).1
      obtain ⟨y, hy⟩ : ∃ y, y = namesR (dir.take i) := ⟨_, rfl⟩
      have hyn : y ++ [dir[i].f0] = namesR (dir.take (i + 1)) := by rw [hy, namesR_take dir hi]
      rw [← hy] at HO
      have hyl : y.length ≤ 1000000 := by have := HDL.out; rw [hy, namesR, List.length_map, List.length_take]; omega
      have HYL := Aside0.mk hyl
      have HYN := Aside0.mk hyn
      have hwi : IntKind.i64.wrap ((i : Int) + 1) = ((i + 1 : Nat) : Int) := by have := HDL.out; rw [IntKind.wrap_i64]; omega
      have HI2 : Aside0 (i + 1 ≤ dir.length ∧ dir.length + 1 ≤ k1 + (i + 1)) := ⟨by have := HI.out; omega⟩
      clear hy hyn hyl HI
      obtain ⟨x, hx⟩ : ∃ x, x = dir[i].f0 := ⟨_, rfl⟩
      rw [← hx] at hd1 HYN
      clear hx
      go_wp2_with ((with_reducible refine gate_builtin (b := .append) (xs := #[.tmp 14, .tmp 23]) rfl ?_); at_builtin; refine Kd.R_append Kd.string w.heap.size rfl (.tmp 14) (.tmp 23) 37 9 (.string ⟨#[]⟩) 16 rfl Try.underlying37 info9 rfl (by decide) (by omega) u3 y x [.string x] (fun _ => True) (fun _ => False) rfl rfl rfl (fun _ hk => hk.elim) (fun _ _ => trivial) (by (with_reducible repeat (first | apply Kd.R_alloc | apply Kd.R_drewN | apply Kd.R_drew)); exact HO.out) HB.out ?aS ?aL ?_; (case aS => exact HB.out.size); (case aL => have := HYL.out; omega); intro v2 w2 ho_ hb_ hg_ hn_; have HO2 := Aside0.mk ho_; have HB2 := Aside0.mk hb_; clear ho_ hb_ hg_ hn_)
      go_roundg k1
      case measure => have := HI2.out; omega
      case rel => exact ⟨i + 1, by first | rfl | (rw [hwi]) | (simp only [hwi]; done), HI2, ⟨HYN.out ▸ HO2.out⟩, ⟨HB2.out⟩⟩
    · have hii : i = dir.length := by have := HI.out; omega
      subst hii
      have b1 : decide (dir.length < dir.length) = false := decide_eq_false (by omega)
      rw [List.take_length] at HO
      clear hi
      go_wp2
      go_ret
      exact ⟨_, rfl, HO.out, HB.out⟩
end Go.Proofs.Ytoninmgglcepmaa.Dk
