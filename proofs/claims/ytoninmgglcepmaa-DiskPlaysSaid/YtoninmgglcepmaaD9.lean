/- A crash: the walk. -/
import Derived.Test.YtoninmgglcepmaaD8
namespace Go.Proofs.Ytoninmgglcepmaa.Dk
open RegD Go.RowKit Go.ChangeMaps Go.Proofs.YtoninmgglcepmaaW.PrintWords Go.Proofs.YtoninmgglcepmaaW.PrintLast Go.Proofs.YtoninmgglcepmaaW.PrintMore Mp
attribute [local go_sem] max2_int min2_int max_two min_two max_three min_three max_four min_four
set_option linter.unusedVariables false
set_option linter.unusedSimpArgs false
/-- The changes done, one behind the other. -/
def runM (l : List (ByteArray × Nat)) (cs : List Chg) : Option (List (ByteArray × Nat)) := cs.foldlM doM l
theorem runM_append (l : List (ByteArray × Nat)) (a b : List Chg) : runM l (a ++ b) = (runM l a).bind fun l2 => runM l2 b := List.foldlM_append ..
theorem runM_take {l : List (ByteArray × Nat)} {cs : List Chg} {l2 : List (ByteArray × Nat)} (h : runM l cs = some l2) (i : Nat) : ∃ l1, runM l (cs.take i) = some l1 := by
  rw [← List.take_append_drop i cs, runM_append] at h
  cases hx : runM l (cs.take i) with
  | none => rw [hx] at h; cases h
  | some l1 => exact ⟨l1, rfl⟩
theorem runM_succ {l : List (ByteArray × Nat)} {cs : List Chg} {l1 : List (ByteArray × Nat)} {i : Nat} (hi : i < cs.length) (h : runM l (cs.take i) = some l1) : runM l (cs.take (i + 1)) = doM l1 cs[i] := by
  rw [List.take_succ_eq_append_getElem hi, runM_append, h]
  show (runM l1 [cs[i]]) = _
  unfold runM
  rw [List.foldlM_cons]
  cases doM l1 cs[i] <;> rfl
theorem below_grown {w w1 w2 : World} {b : Nat} (h : Below w.heap.size w w1) (hg : w1.grownBy w2 (some b)) (hb : w.heap.size ≤ b) : Below w.heap.size w w2 :=
  ⟨hg.os.trans h.os, hg.tape.trans h.tape, hg.output.trans h.output, Nat.le_trans h.size hg.size, fun k hk => (hg.block k (Nat.lt_of_lt_of_le hk h.size) (fun he => by injection he with he; omega)).trans (h.block k hk)⟩
/-- A file behind a crash. -/
def cutV (v : Value) (n : Nat) : Value := match v with | .slice A _ c => .slice A n c | v => v
def kOf (q : Nat) (f : FS) : Nat := q % (f.bs.length - f.safe.toNat + 1)
def nOf (q : Nat) (f : FS) : Nat := f.safe.toNat + kOf q f
def crB (q : Nat) (f : FS) : List Int := if 0 < kOf q f ∧ q % 2 = 1 then (f.bs.take (nOf q f)).set (nOf q f - 1) (bits .xor .u8 (rd (f.bs.take (nOf q f)) ((nOf q f : Int) - 1)) 85) else f.bs.take (nOf q f)
def crF (q : Nat) (f : FS) : FS := { f with v := cutV f.v (nOf q f), bs := crB q f, safe := (nOf q f : Int) }
/-- Some of the files have been through it. -/
def fsD (q : Nat) (S : List Nat) (fs : List FS) : List FS := fs.map fun f => if f.g ∈ S then crF q f else f
theorem fsD_nil (q : Nat) (fs : List FS) : fsD q [] fs = fs := by
  unfold fsD
  conv => rhs; rw [← List.map_id fs]
  exact List.map_congr_left fun f _ => by simp
theorem fsD_perm {q : Nat} {S S' : List Nat} (h : S.Perm S') (fs : List FS) : fsD q S fs = fsD q S' fs :=
  List.map_congr_left fun f _ => by simp only [h.mem_iff]
theorem fsD_mem {q : Nat} {S : List Nat} {fs : List FS} {f : FS} (hf : f ∈ fs) (hs : f.g ∉ S) : f ∈ fsD q S fs := List.mem_map.2 ⟨f, hf, if_neg hs⟩
theorem fsD_step {q : Nat} {S : List Nat} {fs : List FS} {f : FS} (hg : ∀ x ∈ fs, ∀ y ∈ fs, x.g = y.g → x = y) (hf : f ∈ fs) (hs : f.g ∉ S) {u : FS → FS} (hu : u f = crF q f) : updF (fsD q S fs) f.g u = fsD q (f.g :: S) fs := by
  unfold updF fsD
  rw [List.map_map]
  refine List.map_congr_left fun x hx => ?_
  by_cases hxg : x.g = f.g
  · obtain rfl := hg x hx f hf hxg
    simp only [Function.comp_apply, if_neg hs, if_true, List.mem_cons_self]
    exact hu
  · have : (if x.g ∈ S then crF q x else x).g ≠ f.g := by split <;> exact hxg
    simp only [Function.comp_apply, if_neg this, List.mem_cons, hxg, false_or]
theorem kOf_le {q : Nat} {f : FS} : kOf q f ≤ f.bs.length - f.safe.toNat := Nat.le_of_lt_succ (Nat.mod_lt _ (Nat.succ_pos _))
theorem nOf_le {q : Nat} {f : FS} (h : f.safe.toNat ≤ f.bs.length) : nOf q f ≤ f.bs.length := by have := kOf_le (q := q) (f := f); unfold nOf; omega
theorem crashStep0 {w : World} {d : DSt} (h : DiskAt w d) {f : FS} (hf : f ∈ d.fs) {A : Option Addr} {c n : Nat} (hv : f.v = .slice A f.bs.length c) (hn : n ≤ f.bs.length) :
    DiskAt ((w.setCell ⟨f.g, 0, none⟩ (.slice A n c)).setCell ⟨f.g, 1, none⟩ (.int .i64 (n : Int))) { d with fs := updF d.fs f.g fun x => { x with v := .slice A n c, bs := f.bs.take n, safe := (n : Int) } } := by
  have g1 := grown_set (Below.refl w.heap.size w) f.g 0 (.slice A n c)
  have g2 := grown_then g1 (grown_set (Below.refl _ (w.setCell ⟨f.g, 0, none⟩ (.slice A n c))) f.g 1 (.int .i64 (n : Int)))
  have ho : ∀ m, (Value.slice A m c).ownBlock = f.v.ownBlock := fun m => by rw [hv]; cases A <;> rfl
  refine h.upd hf (fun k h1 h2 _ => g2.block k h1 (fun he => h2 (by injection he))) ⟨blk_put (blk_put (h.hf f hf).hb 0 _ rfl) 1 _ rfl, row_same rfl (Kd.R_take (hv ▸ (h.hf f hf).hr) hn) (fun k hk => g2.block k (Kd.R_lt (h.hf f hf).hr k (by rw [← ho]; exact hk)) (fun he => ?_))⟩ (.inl (ho n))
  injection he with he
  subst he
  exact h.f_v hf hf (by rw [← ho]; exact hk)
theorem crashStep1 {w : World} {d : DSt} (h : DiskAt w d) {f : FS} (hf : f ∈ d.fs) {g c n i : Nat} {x : Int} (hv : f.v = .slice (some ⟨g, 0, none⟩) f.bs.length c) (hn : n ≤ f.bs.length) :
    DiskAt (((w.setCell ⟨f.g, 0, none⟩ (.slice (some ⟨g, 0, none⟩) n c)).setCell ⟨g, i, none⟩ (.int .u8 x)).setCell ⟨f.g, 1, none⟩ (.int .i64 (n : Int))) { d with fs := updF d.fs f.g fun y => { y with v := .slice (some ⟨g, 0, none⟩) n c, bs := (f.bs.take n).set i x, safe := (n : Int) } } := by
  have hg : f.v.ownBlock = some g := by rw [hv]; rfl
  have hne : g ≠ f.g := fun he => h.f_v hf hf (by rw [hg, he])
  have hr := Kd.R_take (hv ▸ (h.hf f hf).hr) hn
  have hgl : g < w.heap.size := Kd.R_lt (h.hf f hf).hr g hg
  have k1 : ∀ k, k ≠ f.g → (w.setCell ⟨f.g, 0, none⟩ (.slice (some ⟨g, 0, none⟩) n c)).heap[k]? = w.heap[k]? := fun k hk => Below.heap_setCell _ _ _ _ hk
  have k2 : ∀ k, k ≠ f.g → k ≠ g → ((w.setCell ⟨f.g, 0, none⟩ (.slice (some ⟨g, 0, none⟩) n c)).setCell ⟨g, i, none⟩ (.int .u8 x)).heap[k]? = w.heap[k]? := fun k hk hk2 => (Below.heap_setCell _ _ _ _ hk2).trans (k1 k hk)
  have hr1 := row_same rfl hr (w' := w.setCell ⟨f.g, 0, none⟩ (.slice (some ⟨g, 0, none⟩) n c)) (fun k hk => k1 k (fun he => hne (by injection hk with hk; exact hk.trans he)))
  have hl : (f.bs.take n).length = n := by rw [List.length_take]; omega
  have hr2 := Kd.R_put (enc := Value.int .u8) (h1 := fun _ => rfl) (xs := f.bs.take n) (by rw [hl]; exact hr1) (i : Int) x
  rw [Int.toNat_natCast, hl] at hr2
  refine h.upd hf (fun k h1 h2 h3 => (Below.heap_setCell _ _ _ _ h2).trans (k2 k h2 (fun he => h3 (by rw [hg, he])))) ⟨blk_put ((Below.heap_setCell _ _ _ _ hne.symm).trans (blk_put (h.hf f hf).hb 0 _ rfl)) 1 _ rfl, row_same rfl hr2.1 (fun k hk => Below.heap_setCell _ _ _ _ (fun he => hne (by injection hk with hk; exact hk.trans he)))⟩ (.inl (by rw [hg]; rfl))
theorem cutV_own (v : Value) (n : Nat) : (cutV v n).ownBlock = v.ownBlock := by
  cases v with
  | slice A m c => cases A <;> rfl
  | _ => rfl
theorem foot_fsD {d : DSt} {q : Nat} {S : List Nat} {k : Nat} (h : Foot { d with fs := fsD q S d.fs } k) : Foot d k := by
  rcases h with h | h | h | h | ⟨f, hf, h⟩
  · exact .inl h
  · exact .inr (.inl h)
  · exact .inr (.inr (.inl h))
  · exact .inr (.inr (.inr (.inl h)))
  · obtain ⟨x, hx, rfl⟩ := List.mem_map.1 hf
    refine .inr (.inr (.inr (.inr ⟨x, hx, ?_⟩)))
    have h1 : (if x.g ∈ S then crF q x else x).g = x.g := by split <;> rfl
    have h2 : (if x.g ∈ S then crF q x else x).v.ownBlock = x.v.ownBlock := by split <;> first | exact cutV_own _ _ | rfl
    rw [h1, h2] at h
    exact h
theorem range_same {w w' : World} {b r : Nat} {l left : List (ByteArray × Value)} (h : RangeB w b r l left) (hb : w'.heap[b]? = w.heap[b]?) (hr : w'.heap[r]? = w.heap[r]?) : RangeB w' b r l left := by
  obtain ⟨es, clock, since, seen, c0, h1, h2, h3, h4, h5, h6, h7, h8, h9⟩ := h
  exact ⟨es, clock, since, seen, c0, hb.trans h1, h2, h3, h4, h5, h6, h7, hr.trans h8, h9⟩
theorem foot_crash {d : DSt} {q nb : Nat} {S : List Nat} {q' : Int} {dir : List (ByteArray × Nat)} {k : Nat} (h : Foot { d with bd := nb, dir := dir, quota := q', fs := fsD q S d.fs } k) : Foot d k ∨ k = nb := by
  rcases foot_fsD (d := { d with bd := nb, dir := dir, quota := q' }) h with h | h | h | h | h
  · exact .inl (.inl h)
  · exact .inr h
  · exact .inl (.inr (.inr (.inl h)))
  · exact .inl (.inr (.inr (.inr (.inl h))))
  · exact .inl (.inr (.inr (.inr (.inr h))))
/-- What a crash leaves. -/
def crashD (d : DSt) (dir : List (ByteArray × Nat)) (q nb1 nb2 : Nat) : DSt :=
  { d with bd := nb1, bs := nb2, dir := dir, safe := dir, vch := .slice none 0 0, chg := [], quota := -1, fs := fsD q (dir.map (·.2)) d.fs }
set_option maxHeartbeats 8000000 in
set_option maxRecDepth 100000 in
theorem crashC {w : World} {d : DSt} (h : DiskAt w d) (pick : Int) (P : Nat) (hp : (P : Int) = if pick < 0 then -(pick + 1) else pick) (hpb : -9223372036854775808 ≤ pick ∧ pick ≤ 9223372036854775807) (hch : d.chg.length ≤ 1000000000) {l0 : List (ByteArray × Nat)} (hrun : runM d.safe d.chg = some l0)
    {dirP : List (ByteArray × Nat)} (hdp : runM d.safe (d.chg.take (P % (d.chg.length + 1))) = some dirP) (hok : ∀ p ∈ dirP, ∃ f ∈ d.fs, f.g = p.2) (hnd : (dirP.map (·.2)).Nodup) (hsf : ∀ f ∈ d.fs, 0 ≤ f.safe ∧ f.safe ≤ f.bs.length ∧ f.bs.length ≤ 1000000000000) :
    Calls Try.prog 18 #[.pointer (some ⟨d.gd, 0, none⟩), .int .i64 pick] w fun e w' => e = .returned (.tuple #[]) ∧ ∃ nb1 nb2, w.heap.size ≤ nb1 ∧ w.heap.size ≤ nb2 ∧ DiskAt w' (crashD d dirP (P / (d.chg.length + 1)) nb1 nb2) ∧ Kept w w' (Foot d) := by
  have hc1 : w.cell? ⟨d.gd, 1, none⟩ = some (.map (some d.bs)) := blk_cell h.hd 1
  have hc2 : w.cell? ⟨d.gd, 2, none⟩ = some d.vch := blk_cell h.hd 2
  obtain ⟨Ac, cc, ec⟩ := Kd.R_slice h.hc
  rw [ec] at hc2
  have hEC := Aside0.mk ec
  have hPw : (P : Int) ≤ 9223372036854775807 := by rw [hp]; split <;> omega
  have HPW := Aside0.mk hPw
  obtain ⟨es, clock, hes, hmb⟩ := mb_clone h.hs
  have HC := Lib.hid (mapsCloneC hes)
  have HMB := Aside0.mk hmb
  have HB := Aside0.mk (below_alloc (Below.refl w.heap.size w) (.map es clock))
  have HD := Aside0.mk (h.below HB.out)
  have HD0 := Aside0.mk h
  have HCH := Aside0.mk hch
  have hlen : IntKind.i64.wrap ((d.chg.length : Int) + 1) = ((d.chg.length + 1 : Nat) : Int) := by rw [IntKind.wrap_i64]; omega
  obtain ⟨m, hm⟩ : ∃ m, m = P % (d.chg.length + 1) := ⟨_, rfl⟩
  have hrem : (P : Int).tmod ((d.chg.length : Int) + 1) = (m : Int) := by rw [hm]; exact Int.ofNat_tmod _ _
  have hn0 : ((d.chg.length : Int) + 1 = 0) = False := eq_false (by omega)
  have hml : m ≤ d.chg.length := by rw [hm]; exact Nat.le_of_lt_succ (Nat.mod_lt P (Nat.succ_pos d.chg.length))
  have hcut := cut_to (P := Try.prog) 57 66 .i64 Try.underlying57 (i := _) rfl Ac d.chg.length cc (m : Int) (by omega) (by omega) (by have := Kd.R_reads' (ec ▸ h.hc); exact this.2.1)
  have HM := Aside0.mk hm
  have HML := Aside0.mk hml
  have HRF := Aside0.mk hrun
  have HDP := Aside0.mk (hm ▸ hdp)
  have HOK := Aside0.mk hok
  have HND := Aside0.mk hnd
  have HSF := Aside0.mk hsf
  obtain ⟨q, hq⟩ : ∃ q, q = P / (d.chg.length + 1) := ⟨_, rfl⟩
  have hquo : wrap64 ((P : Int) / ((d.chg.length : Int) + 1)) = (q : Int) := by
    have h1 : (P : Int) / ((d.chg.length : Int) + 1) = (q : Int) := by rw [hq]; rfl
    have h2 : q ≤ P := hq ▸ Nat.div_le_self _ _
    rw [h1]
    clear hq h1
    unfold wrap64; omega
  have HQP := Aside0.mk (show (q : Int) ≤ 9223372036854775807 from Int.le_trans (Int.ofNat_le.2 (hq ▸ Nat.div_le_self _ _)) hPw)
  rw [← hq]
  clear h hes hmb ec hPw hch hm hml hrun hdp hok hnd hsf hq
  by_cases hneg : pick < 0
  case' pos =>
    have hnb : decide (pick < 0) = true := decide_eq_true hneg
    rw [if_pos hneg] at hp
    have hw1 : IntKind.i64.wrap (pick + 1) = pick + 1 := by rw [IntKind.wrap_i64]; omega
    have hw2 : IntKind.i64.wrap (-(pick + 1)) = (P : Int) := by rw [IntKind.wrap_i64]; omega
    clear hneg hp hpb
  case' neg =>
    have hnb : decide (pick < 0) = false := decide_eq_false hneg
    rw [if_neg hneg] at hp
    subst hp
    clear hneg hpb
  all_goals
    go_enter Try.func18, Try.ntmps18
    go_wp2_with (go_at_call 40; refine HC.out.mono ?_; rintro e w1 ⟨rfl, hw1⟩; rw [← hw1] at HMB HB HD; clear hw1; have hc2 : w1.cell? ⟨d.gd, 2, none⟩ = some (.slice Ac d.chg.length cc) := hEC.out ▸ blk_cell HD.out.hd 2)
    refine hstart (fun w' => w'.heap[d.gd]? = some (.cells #[.map (some d.bd), .map (some d.bs), .slice Ac d.chg.length cc, .int .i64 d.quota] 59 (0, 0))) [] 10 (by kernel_rfl) rfl (by kernel_rfl) (hEC.out ▸ HD.out.hd) (fun w_ hw_ s_ => ?_)
    have HDw := Aside0.mk (show DiskAt w_ d from hw_ ▸ HD.out.drew)
    have HMw := Aside0.mk (show MapB w_ w.heap.size (ptrs d.safe) from hw_ ▸ mb_same HMB.out rfl)
    have HBw := Aside0.mk (show Below w.heap.size w w_ from hw_ ▸ HB.out.drew)
    clear hw_ HD HMB HB
    refine hpure 0 (some 28) 1 [] (v := ?_) (a' := ?_) s_ rfl rfl (by kernel_rfl) (Or.inl ⟨by rfl, ?_⟩) ?_ ?_
    rotate_left
    · intro w' s0; go_simp; with_reducible rfl
    rotate_left
    · simp only [Act.put, List.setIfInBounds_toArray, List.set_cons_zero, List.set_cons_succ, i64_w, i32_w]; rfl
    refine hpure 1 (some 29) 2 [] (v := ?_) (a' := ?_) s_ rfl rfl (by kernel_rfl) (Or.inl ⟨by rfl, ?_⟩) ?_ ?_
    rotate_left
    · intro w' s0; go_simp; with_reducible rfl
    rotate_left
    · simp only [Act.put, List.setIfInBounds_toArray, List.set_cons_zero, List.set_cons_succ, i64_w, i32_w]; rfl
    refine hpure 2 (some 30) 3 [] (v := ?_) (a' := ?_) s_ rfl rfl (by kernel_rfl) (Or.inl ⟨by rfl, ?_⟩) ?_ ?_
    rotate_left
    · intro w' s0; go_simp; with_reducible rfl
    rotate_left
    · simp only [Act.put, List.setIfInBounds_toArray, List.set_cons_zero, List.set_cons_succ, i64_w, i32_w]; rfl
    refine hpure 3 (some 31) 4 [] (v := ?_) (a' := ?_) s_ rfl rfl (by kernel_rfl) (Or.inl ⟨by rfl, ?_⟩) ?_ ?_
    rotate_left
    · intro w' s0; have s1 : w'.cell? ⟨d.gd, 2, none⟩ = some (.slice Ac d.chg.length cc) := blk_cell s0 2; go_simp; with_reducible rfl
    rotate_left
    · simp only [Act.put, List.setIfInBounds_toArray, List.set_cons_zero, List.set_cons_succ, i64_w, i32_w]; rfl
    refine hpure 4 (some 32) 5 [] (v := ?_) (a' := ?_) s_ rfl rfl (by kernel_rfl) (Or.inl ⟨by rfl, ?_⟩) ?_ ?_
    rotate_left
    · intro w' s0; go_simp; with_reducible rfl
    rotate_left
    · simp only [Act.put, List.setIfInBounds_toArray, List.set_cons_zero, List.set_cons_succ, i64_w, i32_w]; rfl
    refine hpure 5 (some 33) 6 [] (v := ?_) (a' := ?_) s_ rfl rfl (by kernel_rfl) (Or.inl ⟨by rfl, ?_⟩) ?_ ?_
    rotate_left
    · intro w' s0; go_simp; with_reducible rfl
    rotate_left
    · simp only [Act.put, List.setIfInBounds_toArray, List.set_cons_zero, List.set_cons_succ, i64_w, i32_w]; rfl
    refine hpure 6 (some 34) 7 [] (v := ?_) (a' := ?_) s_ rfl rfl (by kernel_rfl) (Or.inl ⟨by rfl, ?_⟩) ?_ ?_
    rotate_left
    · intro w' s0; go_simp; with_reducible rfl
    rotate_left
    · simp only [Act.put, List.setIfInBounds_toArray, List.set_cons_zero, List.set_cons_succ, i64_w, i32_w]; rfl
    refine hpure 7 (some 35) 8 [] (v := ?_) (a' := ?_) s_ rfl rfl (by kernel_rfl) (Or.inl ⟨by rfl, ?_⟩) ?_ ?_
    rotate_left
    · intro w' s0; go_simp; with_reducible rfl
    rotate_left
    · simp only [Act.put, List.setIfInBounds_toArray, List.set_cons_zero, List.set_cons_succ, i64_w, i32_w]; rfl
    refine hpure 8 (some 36) 9 [] (v := ?_) (a' := ?_) s_ rfl rfl (by kernel_rfl) (Or.inl ⟨by rfl, ?_⟩) ?_ ?_
    rotate_left
    · intro w' s0; go_simp; with_reducible rfl
    rotate_left
    · simp only [Act.put, List.setIfInBounds_toArray, List.set_cons_zero, List.set_cons_succ, i64_w, i32_w]; rfl
    refine hpure 9 (some 37) 10 [] (v := ?_) (a' := ?_) s_ rfl rfl (by kernel_rfl) (Or.inl ⟨by rfl, ?_⟩) ?_ ?_
    rotate_left
    · intro w' s0; go_simp; with_reducible rfl
    rotate_left
    · simp only [Act.put, List.setIfInBounds_toArray, List.set_cons_zero, List.set_cons_succ, i64_w, i32_w]; rfl
    refine hdone (by kernel_rfl) ?_
    go_wp2
    go_loopg [37] (m + 1) (fun kq v37 w' => ∃ (i : Nat) (dir : List (ByteArray × Nat)), v37 = .int .i64 (i : Int) ∧ Aside0 (m + 1 ≤ kq + i) ∧ Aside0 (i ≤ m) ∧ Aside0 (runM d.safe (d.chg.take i) = some dir) ∧ Aside0 (MapB w' w.heap.size (ptrs dir)) ∧ Aside0 (Below w.heap.size w w'))
    case atStart => exact ⟨0, d.safe, rfl, ⟨by omega⟩, ⟨by omega⟩, ⟨rfl⟩, HMw, HBw⟩
    case round =>
      clear HMw HBw HDw
      obtain ⟨i, dir, rfl, HK, HI, HRn, HMp, HBr⟩ := hrel
      obtain ⟨k1, rfl⟩ : ∃ k1, gk = k1 + 1 := ⟨gk - 1, by have := HK.out; have := HI.out; omega⟩
      by_cases him : i < m
      · have hil : i < d.chg.length := Nat.lt_of_lt_of_le him HML.out
        have hcb : decide (i < m) = true := decide_eq_true him
        have hRc : kC.R 66 wr 0 (fun _ => True) (.slice Ac d.chg.length cc) d.chg := hEC.out ▸ ((HD0.out.below HBr.out).hc)
        obtain ⟨g, cc', he, _, _, _⟩ := Kd.R_form hRc (by omega)
        injection he with he1 he2 he3
        subst he1 he3
        obtain ⟨cs, hcl, hM, hcc, _⟩ := Kd.R_elem hRc ⟨0, ⟨#[]⟩, ⟨#[]⟩, none⟩ (i : Int) (by omega) (by omega)
        have hcs := kC_open (kC.K_of_M hM)
        generalize hce : (d.chg.getD (i : Int).toNat ⟨0, ⟨#[]⟩, ⟨#[]⟩, none⟩) = c at hcs
        have hcx : d.chg[i] = c := by rw [← hce, Int.toNat_natCast, List.getD_eq_getElem?_getD, List.getElem?_eq_getElem hil]; rfl
        subst hcs
        have e0 : wr.cell? ⟨g, i * 4, none⟩ = some (.int .i64 c.kind) := hcc 0 _ rfl
        have e1 : wr.cell? ⟨g, i * 4 + 1, none⟩ = some (.string c.name) := hcc 1 _ rfl
        have e2 : wr.cell? ⟨g, i * 4 + 2, none⟩ = some (.string c.dst) := hcc 2 _ rfl
        have e3 : wr.cell? ⟨g, i * 4 + 3, none⟩ = some (pv c.f) := hcc 3 _ rfl
        obtain ⟨l2, hl2⟩ := runM_take HRF.out (i + 1)
        have hdo := runM_succ hil HRn.out
        rw [hl2, hcx] at hdo
        have HL2 := Aside0.mk hl2
        have hrel1 : Aside0 (m + 1 ≤ k1 + (i + 1)) := ⟨by have := HK.out; omega⟩
        have hrel2 : Aside0 (i + 1 ≤ m) := ⟨him⟩
        have hwi : IntKind.i64.wrap ((i : Int) + 1) = ((i + 1 : Nat) : Int) := by have := HML.out; have := HCH.out; rw [IntKind.wrap_i64]; omega
        have hD := Lib.hid (doC (mb_alloc HMp.out (chgO c)) c hdo.symm)
        have HBa := Aside0.mk (below_alloc HBr.out (chgO c))
        have hxc := blk_new wr (chgO c)
        have x0 : (wr.alloc (chgO c)).cell? ⟨wr.heap.size, 0, none⟩ = some (.int .i64 c.kind) := blk_cell hxc 0
        have x1 : (wr.alloc (chgO c)).cell? ⟨wr.heap.size, 1, none⟩ = some (.string c.name) := blk_cell hxc 1
        have x2 : (wr.alloc (chgO c)).cell? ⟨wr.heap.size, 2, none⟩ = some (.string c.dst) := blk_cell hxc 2
        have x3 : (wr.alloc (chgO c)).cell? ⟨wr.heap.size, 3, none⟩ = some (pv c.f) := blk_cell hxc 3
        clear hcc hM hcl hdo hcx hce hl2 hil hRc hxc
        unfold chgO pv at *
        go_wp2_with (go_at_call 41; refine hD.out.mono ?_; rintro e w2 ⟨rfl, hm2, hg2⟩; have HM2 := Aside0.mk hm2; have HG2 := Aside0.mk hg2; clear hm2 hg2)
        go_roundg k1
        case measure => omega
        case rel => exact ⟨i + 1, l2, by first | rfl | (rw [hwi]; done) | (simp [hwi]; done), hrel1, hrel2, HL2, HM2, ⟨below_grown HBa.out HG2.out (Nat.le_refl _)⟩⟩
      · obtain rfl : i = m := by have := HI.out; omega
        have hcb : decide (i < i) = false := decide_eq_false (by omega)
        clear him
        have HDr := Aside0.mk (HD0.out.below HBr.out)
        have hf0 := blk_frozen HDr.out.hd 0
        have hcz : wr.cell? ⟨d.gd, 0, none⟩ = some (.map (some d.bd)) := blk_cell HDr.out.hd 0
        obtain rfl : dir = dirP := Option.some.inj (HRn.out.symm.trans HDP.out)
        have HNB := Aside0.mk (show w.heap.size ≠ d.bs from Nat.ne_of_gt (mb_lt HD0.out.hs))
        have HD2 := Aside0.mk (HDr.out.put_dirmap HMp.out HNB.out)
        have HK2 := Aside0.mk (Kept.of_grown (grown_set (Below.refl _ wr) d.gd 0 (.map (some w.heap.size))) (Kept.of_below HBr.out (Foot d)) (fun k hk => by injection hk with hk; exact .inl (.inl hk.symm)))
        go_wp2
        generalize hnbe : w.heap.size = nb at *
        generalize hw2e : wr.setCell _ _ = w2 at *
        obtain ⟨oR, hrg, hRB⟩ := range_start (P := Try.prog) HD2.out.hm Try.underlying56
        replace hrg : (Instr.range 56 (.map (some nb))).run Try.prog w2 = .ok (.pointer (some ⟨w2.heap.size, 0, none⟩)) (w2.alloc oR) := hrg
        replace hRB : RangeB (w2.alloc oR) nb w2.heap.size (ptrs dir) (ptrs dir) := hRB
        have HF := Aside0.mk (fun k (hk : Foot { d with bd := nb, dir := dir } k) => HD2.out.foot hk)
        have HD3 := Aside0.mk (HD2.out.below (below_alloc (Below.refl _ _) oR))
        have HK3 := Aside0.mk (HK2.out.alloc oR)
        have HRB := Aside0.mk hRB
        have HNBL := Aside0.mk (mb_lt HD2.out.hm)
        have HW0 := Aside0.mk HK2.out.1
        clear hRB HMp HDr hf0 hcz
        rw [hrg]
        simp only [Result.andThen]
        rw [Oper.upon_value]
        go_wp2
        generalize hre : w2.heap.size = r at *
        clear hrg hw2e HD2 HK2 hre
        go_loopg [10] (dir.length + 1) (fun kq v10 w' => ∃ (L : List (ByteArray × Nat)) (S : List Nat), Aside0 (L.length + 1 ≤ kq) ∧ Aside0 ((S ++ L.map (·.2)).Perm (dir.map (·.2))) ∧ Aside0 (RangeB w' nb r (ptrs dir) (ptrs L)) ∧ Aside0 (DiskAt w' { d with bd := nb, dir := dir, fs := fsD q S d.fs }) ∧ Aside0 (Kept w w' (Foot d)))
        case atStart => exact ⟨dir, [], ⟨by omega⟩, ⟨List.Perm.refl _⟩, HRB, ⟨by rw [fsD_nil]; exact HD3.out⟩, HK3⟩
        case round =>
          obtain ⟨L, S, HK, HP, HRg, HD, HKp⟩ := hrel
          obtain ⟨k1, rfl⟩ : ∃ k1, gk = k1 + 1 := ⟨gk - 1, by have := HK.out; omega⟩
          clear HD3 HK3 HRB
          rcases range_next (P := Try.prog) HRg.out 0 with ⟨h0, hrun⟩ | ⟨s, v, left', w3, o, hp, hw3, hnext, hR2, hent⟩
          · have hL : L = [] := by cases L with | nil => rfl | cons a l => simp [ptrs] at h0
            subst hL
            have hS : S.Perm (dir.map (·.2)) := by have := HP.out; simpa using this
            have hD := HD.out
            rw [fsD_perm hS] at hD
            have hcq : wr.cell? ⟨d.gd, 3, none⟩ = some (.int .i64 d.quota) := blk_cell hD.hd 3
            have hfq := blk_frozen hD.hd 3
            have HSy := Lib.hid (syncDirC (hD.put_quota (-1)))
            have HKq := Aside0.mk (Kept.of_grown (grown_set (Below.refl _ wr) d.gd 3 (.int .i64 (-1))) HKp.out (fun k hk => by injection hk with hk; exact .inl (.inl hk.symm)))
            clear h0 hS hD HK HP HRg HD HKp
            go_wp2_with (go_at_call 17; refine HSy.out.mono ?_; rintro e wz ⟨rfl, hDz, hKz⟩; have HDz := Aside0.mk hDz; have HKz := Aside0.mk hKz; clear hDz hKz)
            go_end0
            exact ⟨rfl, nb, _, by omega, Nat.le_trans HKq.out.1 (Nat.le_refl _), HDz.out, HKq.out.then_ HKz.out (fun k hk => (foot_crash hk).imp id (fun h => by omega))⟩
          · obtain ⟨g, L', hL, rfl, hp2⟩ := ptrs_pick hp
            have hP' : (S ++ (g :: L'.map (·.2))).Perm (dir.map (·.2)) := (List.Perm.append_left S (hL.map (fun p : ByteArray × Nat => p.2)).symm).trans HP.out
            have hgS : g ∉ S := fun hm => (List.nodup_append.1 (hP'.symm.nodup HND.out)).2.2 g hm g (List.mem_cons_self ..) rfl
            obtain ⟨p, hpd, hpg⟩ := List.mem_map.1 (hP'.subset (List.mem_append_right S (List.mem_cons_self ..)))
            obtain ⟨f, hf, hfg⟩ := HOK.out p hpd
            obtain rfl : f.g = g := hfg.trans hpg
            have hD1 : DiskAt w3 { d with bd := nb, dir := dir, fs := fsD q S d.fs } := by rcases hw3 with rfl | rfl <;> first | exact HD.out | exact HD.out.drew
            have hK1 : Kept w w3 (Foot d) := by rcases hw3 with rfl | rfl <;> first | exact HKp.out | exact HKp.out.drew
            have hD2 : DiskAt (setBlock w3 r o) { d with bd := nb, dir := dir, fs := fsD q S d.fs } := hD1.off grown_block (fun k hk hF => by injection hk with hk; have := HF.out k (foot_fsD (d := { d with bd := nb, dir := dir }) hF); omega)
            have hK2 : Kept w (setBlock w3 r o) (Foot d) := Kept.of_grown grown_block hK1 (fun k hk => by injection hk with hk; exact .inr (by have := HW0.out; omega))
            have hR3 := range_perm hR2 hp2
            generalize setBlock w3 r o = w4 at *
            have hfm : f ∈ fsD q S d.fs := fsD_mem hf hgS
            have hs3 := HSF.out f hf
            have HGS := Aside0.mk hgS
            have HFm := Aside0.mk hfm
            have HFd := Aside0.mk hf
            have HP2 := Aside0.mk hP'
            have HR4 := Aside0.mk hR3
            have HD4 := Aside0.mk hD2
            have HK4 := Aside0.mk hK2
            have hrel1 : Aside0 (L'.length + 1 ≤ k1) := ⟨by have := HK.out; have := hL.length_eq; simp at this; omega⟩
            obtain ⟨gF, vF, bF, sF⟩ := f
            simp only at hs3 hnext hent
            obtain ⟨sn, hsn⟩ := Int.eq_ofNat_of_zero_le hs3.1
            subst hsn
            obtain ⟨A, cF, ev⟩ := Kd.R_slice (hD2.hf _ hfm).hr
            simp only at ev
            subst ev
            have hcn := (Kd.R_reads' (hD2.hf _ hfm).hr).2.1
            have cc0 : w4.cell? ⟨gF, 0, none⟩ = some (.slice A bF.length cF) := blk_cell (hD2.hf _ hfm).hb 0
            have cc1 : w4.cell? ⟨gF, 1, none⟩ = some (.int .i64 (sn : Int)) := blk_cell (hD2.hf _ hfm).hb 1
            have ff0 : w4.frozen? ⟨gF, 0, none⟩ = false := blk_frozen (hD2.hf _ hfm).hb 0
            have ff1 : w4.frozen? ⟨gF, 1, none⟩ = false := blk_frozen (hD2.hf _ hfm).hb 1
            clear hp hgS hpd hpg hfg hf hD1 hK1 hD2 hK2 hR3 hR2 hp2 hfm hP' hw3 HK HP HRg HD HKp hL
            obtain ⟨u, hu⟩ : ∃ u, u = bF.length - sn := ⟨_, rfl⟩
            obtain ⟨kv, hkv⟩ : ∃ kv, kv = q % (u + 1) := ⟨_, rfl⟩
            obtain ⟨n, hn⟩ : ∃ n, n = sn + kv := ⟨_, rfl⟩
            have hkl : kv ≤ u := by rw [hkv]; exact Nat.le_of_lt_succ (Nat.mod_lt q (Nat.succ_pos u))
            have a1 : IntKind.i64.wrap ((bF.length : Int) - (sn : Int)) = (u : Int) := by clear hkv hn; rw [IntKind.wrap_i64]; omega
            have a2 : IntKind.i64.wrap ((u : Int) + 1) = ((u + 1 : Nat) : Int) := by clear hkv hn; rw [IntKind.wrap_i64]; omega
            have a3 : (q : Int).tmod ((u : Int) + 1) = (kv : Int) := by rw [hkv]; exact Int.ofNat_tmod _ _
            have a4 : ((u : Int) + 1 = 0) = False := eq_false (by omega)
            have a5 : IntKind.i64.wrap ((sn : Int) + (kv : Int)) = (n : Int) := by clear hkv; rw [IntKind.wrap_i64]; omega
            have hnl : n ≤ bF.length := by clear hkv; omega
            have hcutF := cut_to (P := Try.prog) 29 5 .i64 Try.underlying29 (i := _) rfl A bF.length cF (n : Int) (by omega) (by omega) hcn
            have HU := Aside0.mk hu
            have HKV := Aside0.mk hkv
            have HN := Aside0.mk hn
            have HNL := Aside0.mk hnl
            clear hu hkv hn hkl hnl hs3 hcn
            unfold pv at *
            dsimp only [Option.map] at hnext hent
            go_wp2
            clear s_
            refine hstart (fun w' => w'.heap[gF]? = some (.cells #[.slice A bF.length cF, .int .i64 (sn : Int)] 62 (0, 0))) [] 14 (by kernel_rfl) rfl (by kernel_rfl) ((HD4.out.hf _ HFm.out).hb) (fun w_ hw_ s_ => ?_)
            have HD5 := Aside0.mk (show DiskAt w_ { d with bd := nb, dir := dir, fs := fsD q S d.fs } from hw_ ▸ HD4.out.drew)
            have HR5 := Aside0.mk (show RangeB w_ nb r (ptrs dir) (ptrs L') from hw_ ▸ range_same HR4.out rfl rfl)
            have HK5 := Aside0.mk (show Kept w w_ (Foot d) from hw_ ▸ HK4.out.drew)
            clear hw_ HD4 HR4 HK4
            refine hpure 0 (some 58) 1 [] (v := ?_) (a' := ?_) s_ rfl rfl (by kernel_rfl) (Or.inl ⟨by rfl, ?_⟩) ?_ ?_
            rotate_left
            · intro w' s0; go_simp; with_reducible rfl
            rotate_left
            · simp only [Act.put, List.setIfInBounds_toArray, List.set_cons_zero, List.set_cons_succ, i64_w, i32_w]; rfl
            refine hpure 1 (some 59) 2 [] (v := ?_) (a' := ?_) s_ rfl rfl (by kernel_rfl) (Or.inl ⟨by rfl, ?_⟩) ?_ ?_
            rotate_left
            · intro w' s0; go_simp; with_reducible rfl
            rotate_left
            · simp only [Act.put, List.setIfInBounds_toArray, List.set_cons_zero, List.set_cons_succ, i64_w, i32_w]; rfl
            refine hpure 2 (some 60) 3 [] (v := ?_) (a' := ?_) s_ rfl rfl (by kernel_rfl) (Or.inl ⟨by rfl, ?_⟩) ?_ ?_
            rotate_left
            · intro w' s0; go_simp; with_reducible rfl
            rotate_left
            · simp only [Act.put, List.setIfInBounds_toArray, List.set_cons_zero, List.set_cons_succ, i64_w, i32_w]; rfl
            refine hpure 3 (some 61) 4 [] (v := ?_) (a' := ?_) s_ rfl rfl (by kernel_rfl) (Or.inl ⟨by rfl, ?_⟩) ?_ ?_
            rotate_left
            · intro w' s0; go_simp; with_reducible rfl
            rotate_left
            · simp only [Act.put, List.setIfInBounds_toArray, List.set_cons_zero, List.set_cons_succ, i64_w, i32_w]; rfl
            refine hpure 4 (some 62) 5 [] (v := ?_) (a' := ?_) s_ rfl rfl (by kernel_rfl) (Or.inl ⟨by rfl, ?_⟩) ?_ ?_
            rotate_left
            · intro w' s0; have s1 : w'.cell? ⟨gF, 0, none⟩ = some (.slice A bF.length cF) := blk_cell s0 0; go_simp; with_reducible rfl
            rotate_left
            · simp only [Act.put, List.setIfInBounds_toArray, List.set_cons_zero, List.set_cons_succ, i64_w, i32_w]; rfl
            refine hpure 5 (some 63) 6 [] (v := ?_) (a' := ?_) s_ rfl rfl (by kernel_rfl) (Or.inl ⟨by rfl, ?_⟩) ?_ ?_
            rotate_left
            · intro w' s0; go_simp; with_reducible rfl
            rotate_left
            · simp only [Act.put, List.setIfInBounds_toArray, List.set_cons_zero, List.set_cons_succ, i64_w, i32_w]; rfl
            refine hpure 6 (some 64) 7 [] (v := ?_) (a' := ?_) s_ rfl rfl (by kernel_rfl) (Or.inl ⟨by rfl, ?_⟩) ?_ ?_
            rotate_left
            · intro w' s0; go_simp; with_reducible rfl
            rotate_left
            · simp only [Act.put, List.setIfInBounds_toArray, List.set_cons_zero, List.set_cons_succ, i64_w, i32_w]; rfl
            refine hpure 7 (some 65) 8 [] (v := ?_) (a' := ?_) s_ rfl rfl (by kernel_rfl) (Or.inl ⟨by rfl, ?_⟩) ?_ ?_
            rotate_left
            · intro w' s0; go_simp; with_reducible rfl
            rotate_left
            · simp only [Act.put, List.setIfInBounds_toArray, List.set_cons_zero, List.set_cons_succ, i64_w, i32_w]; rfl
            refine hpure 8 (some 66) 9 [] (v := ?_) (a' := ?_) s_ rfl rfl (by kernel_rfl) (Or.inl ⟨by rfl, ?_⟩) ?_ ?_
            rotate_left
            · intro w' s0; go_simp; with_reducible rfl
            rotate_left
            · simp only [Act.put, List.setIfInBounds_toArray, List.set_cons_zero, List.set_cons_succ, i64_w, i32_w]; rfl
            refine hpure 9 (some 67) 10 [] (v := ?_) (a' := ?_) s_ rfl rfl (by kernel_rfl) (Or.inl ⟨by rfl, ?_⟩) ?_ ?_
            rotate_left
            · intro w' s0; have s1 : w'.cell? ⟨gF, 1, none⟩ = some (.int .i64 (sn : Int)) := blk_cell s0 1; go_simp; with_reducible rfl
            rotate_left
            · simp only [Act.put, List.setIfInBounds_toArray, List.set_cons_zero, List.set_cons_succ, i64_w, i32_w]; rfl
            refine hpure 10 (some 68) 11 [] (v := ?_) (a' := ?_) s_ rfl rfl (by kernel_rfl) (Or.inl ⟨by rfl, ?_⟩) ?_ ?_
            rotate_left
            · intro w' s0; go_simp; with_reducible rfl
            rotate_left
            · simp only [Act.put, List.setIfInBounds_toArray, List.set_cons_zero, List.set_cons_succ, i64_w, i32_w]; rfl
            refine hpure 11 (some 69) 12 [] (v := ?_) (a' := ?_) s_ rfl rfl (by kernel_rfl) (Or.inl ⟨by rfl, ?_⟩) ?_ ?_
            rotate_left
            · intro w' s0; go_simp; with_reducible rfl
            rotate_left
            · simp only [Act.put, List.setIfInBounds_toArray, List.set_cons_zero, List.set_cons_succ, i64_w, i32_w]; rfl
            refine hpure 12 (some 70) 13 [] (v := ?_) (a' := ?_) s_ rfl rfl (by kernel_rfl) (Or.inl ⟨by rfl, ?_⟩) ?_ ?_
            rotate_left
            · intro w' s0; go_simp; with_reducible rfl
            rotate_left
            · simp only [Act.put, List.setIfInBounds_toArray, List.set_cons_zero, List.set_cons_succ, i64_w, i32_w]; rfl
            refine hpure 13 (some 11) 14 [] (v := ?_) (a' := ?_) s_ rfl rfl (by kernel_rfl) (Or.inl ⟨by rfl, ?_⟩) ?_ ?_
            rotate_left
            · intro w' s0; go_simp; with_reducible rfl
            rotate_left
            · simp only [Act.put, List.setIfInBounds_toArray, List.set_cons_zero, List.set_cons_succ, i64_w, i32_w]; rfl
            refine hdone (by kernel_rfl) ?_
            go_upto_region 15 with (fail)
            refine hstart (fun w' => w'.heap[gF]? = some (.cells #[.slice A bF.length cF, .int .i64 (sn : Int)] 62 (0, 0))) [14] 15 (by kernel_rfl) rfl (by kernel_rfl) ((HD5.out.hf _ HFm.out).hb) (fun w_ hw_ s_ => ?_)
            have HD6 := Aside0.mk (show DiskAt w_ { d with bd := nb, dir := dir, fs := fsD q S d.fs } from hw_ ▸ HD5.out.drew)
            have HR6 := Aside0.mk (show RangeB w_ nb r (ptrs dir) (ptrs L') from hw_ ▸ range_same HR5.out rfl rfl)
            have HK6 := Aside0.mk (show Kept w w_ (Foot d) from hw_ ▸ HK5.out.drew)
            clear hw_ HD5 HR5 HK5
            refine hpure 0 (some 71) 1 [] (v := ?_) (a' := ?_) s_ rfl rfl (by kernel_rfl) (Or.inl ⟨by rfl, ?_⟩) ?_ ?_
            rotate_left
            · intro w' s0; go_simp; with_reducible rfl
            rotate_left
            · simp only [Act.put, List.setIfInBounds_toArray, List.set_cons_zero, List.set_cons_succ, i64_w, i32_w]; rfl
            refine hpure 1 (some 72) 2 [] (v := ?_) (a' := ?_) s_ rfl rfl (by kernel_rfl) (Or.inl ⟨by rfl, ?_⟩) ?_ ?_
            rotate_left
            · intro w' s0; go_simp; with_reducible rfl
            rotate_left
            · simp only [Act.put, List.setIfInBounds_toArray, List.set_cons_zero, List.set_cons_succ, i64_w, i32_w]; rfl
            refine hpure 2 (some 73) 3 [] (v := ?_) (a' := ?_) s_ rfl rfl (by kernel_rfl) (Or.inl ⟨by rfl, ?_⟩) ?_ ?_
            rotate_left
            · intro w' s0; go_simp; with_reducible rfl
            rotate_left
            · simp only [Act.put, List.setIfInBounds_toArray, List.set_cons_zero, List.set_cons_succ, i64_w, i32_w]; rfl
            refine hpure 3 (some 74) 4 [] (v := ?_) (a' := ?_) s_ rfl rfl (by kernel_rfl) (Or.inl ⟨by rfl, ?_⟩) ?_ ?_
            rotate_left
            · intro w' s0; go_simp; with_reducible rfl
            rotate_left
            · simp only [Act.put, List.setIfInBounds_toArray, List.set_cons_zero, List.set_cons_succ, i64_w, i32_w]; rfl
            refine hpure 4 (some 75) 5 [] (v := ?_) (a' := ?_) s_ rfl rfl (by kernel_rfl) (Or.inl ⟨by rfl, ?_⟩) ?_ ?_
            rotate_left
            · intro w' s0; have s1 : w'.cell? ⟨gF, 0, none⟩ = some (.slice A bF.length cF) := blk_cell s0 0; go_simp; with_reducible rfl
            rotate_left
            · simp only [Act.put, List.setIfInBounds_toArray, List.set_cons_zero, List.set_cons_succ, i64_w, i32_w]; rfl
            refine hpure 5 (some 76) 6 [] (v := ?_) (a' := ?_) s_ rfl rfl (by kernel_rfl) (Or.inl ⟨by rfl, ?_⟩) ?_ ?_
            rotate_left
            · intro w' s0; go_simp; with_reducible rfl
            rotate_left
            · simp only [Act.put, List.setIfInBounds_toArray, List.set_cons_zero, List.set_cons_succ, i64_w, i32_w]; rfl
            refine hpure 6 (some 77) 7 [] (v := ?_) (a' := ?_) s_ rfl rfl (by kernel_rfl) (Or.inl ⟨by rfl, ?_⟩) ?_ ?_
            rotate_left
            · intro w' s0; go_simp; with_reducible rfl
            rotate_left
            · simp only [Act.put, List.setIfInBounds_toArray, List.set_cons_zero, List.set_cons_succ, i64_w, i32_w]; rfl
            refine hpure 7 (some 78) 8 [] (v := ?_) (a' := ?_) s_ rfl rfl (by kernel_rfl) (Or.inl ⟨by rfl, ?_⟩) ?_ ?_
            rotate_left
            · intro w' s0; go_simp; with_reducible rfl
            rotate_left
            · simp only [Act.put, List.setIfInBounds_toArray, List.set_cons_zero, List.set_cons_succ, i64_w, i32_w]; rfl
            refine hpure 8 (some 79) 9 [] (v := ?_) (a' := ?_) s_ rfl rfl (by kernel_rfl) (Or.inl ⟨by rfl, ?_⟩) ?_ ?_
            rotate_left
            · intro w' s0; have s1 : w'.cell? ⟨gF, 1, none⟩ = some (.int .i64 (sn : Int)) := blk_cell s0 1; go_simp; with_reducible rfl
            rotate_left
            · simp only [Act.put, List.setIfInBounds_toArray, List.set_cons_zero, List.set_cons_succ, i64_w, i32_w]; rfl
            refine hpure 9 (some 80) 10 [] (v := ?_) (a' := ?_) s_ rfl rfl (by kernel_rfl) (Or.inl ⟨by rfl, ?_⟩) ?_ ?_
            rotate_left
            · intro w' s0; go_simp; with_reducible rfl
            rotate_left
            · simp only [Act.put, List.setIfInBounds_toArray, List.set_cons_zero, List.set_cons_succ, i64_w, i32_w]; rfl
            refine hpure 10 (some 81) 11 [] (v := ?_) (a' := ?_) s_ rfl rfl (by kernel_rfl) (Or.inl ⟨by rfl, ?_⟩) ?_ ?_
            rotate_left
            · intro w' s0; go_simp; with_reducible rfl
            rotate_left
            · simp only [Act.put, List.setIfInBounds_toArray, List.set_cons_zero, List.set_cons_succ, i64_w, i32_w]; rfl
            refine hpure 11 (some 82) 12 [] (v := ?_) (a' := ?_) s_ rfl rfl (by kernel_rfl) (Or.inl ⟨by rfl, ?_⟩) ?_ ?_
            rotate_left
            · intro w' s0; go_simp; with_reducible rfl
            rotate_left
            · simp only [Act.put, List.setIfInBounds_toArray, List.set_cons_zero, List.set_cons_succ, i64_w, i32_w]; rfl
            refine hpure 12 (some 83) 13 [] (v := ?_) (a' := ?_) s_ rfl rfl (by kernel_rfl) (Or.inl ⟨by rfl, ?_⟩) ?_ ?_
            rotate_left
            · intro w' s0; go_simp; with_reducible rfl
            rotate_left
            · simp only [Act.put, List.setIfInBounds_toArray, List.set_cons_zero, List.set_cons_succ, i64_w, i32_w]; rfl
            refine hpure 13 (some 84) 14 [] (v := ?_) (a' := ?_) s_ rfl rfl (by kernel_rfl) (Or.inl ⟨by rfl, ?_⟩) ?_ ?_
            rotate_left
            · intro w' s0; go_simp; with_reducible rfl
            rotate_left
            · simp only [Act.put, List.setIfInBounds_toArray, List.set_cons_zero, List.set_cons_succ, i64_w, i32_w]; rfl
            refine hone 14 none 15 [] rfl rfl (by kernel_rfl) (fun K hK => ?_)
            have hcz : w_.cell? ⟨gF, 0, none⟩ = some (.slice A bF.length cF) := blk_cell s_ 0
            have hfz := blk_frozen s_ 0
            refine skip_ (w1 := w_.setCell ⟨gF, 0, none⟩ (.slice A n cF)) (by rfl) rfl (by go_simp) (hK.out (fun _ => False) _ _ (fun _ h => h.elim) (fun hn => absurd (by decide) hn) ?_)
            clear hK K hcz hfz
            refine hdone (by kernel_rfl) ?_
            have HGg := Aside0.mk HD0.out.hg
            have HFIN := Aside0.mk (fun (wz : World) (hsz : w_.heap.size ≤ wz.heap.size) (hos : wz.os = w_.os ∧ wz.tape = w_.tape ∧ wz.output = w_.output) (hz : ∀ k, k < w_.heap.size → k ≠ gF → (Value.slice A bF.length cF).ownBlock ≠ some k → wz.heap[k]? = w_.heap[k]?) => (show Aside0 (RangeB wz nb r (ptrs dir) (ptrs L')) ∧ Aside0 (Kept w wz (Foot d)) from by
              have hro : r < w_.heap.size := by obtain ⟨_, _, _, _, _, _, _, _, _, _, _, _, h8, _⟩ := HR6.out; exact blk_lt h8
              have hg1 := HF.out gF (foot_fsD (d := { d with bd := nb, dir := dir }) (.inr (.inr (.inr (.inr ⟨_, HFm.out, .inl rfl⟩)))))
              refine ⟨⟨range_same HR6.out (hz nb (Nat.lt_trans HNBL.out hro) (HD6.out.map_f HFm.out).1.symm (fun he => (HD6.out.map_v HFm.out he).1 rfl)) (hz r hro (by omega) (fun he => by have := HF.out r (foot_fsD (d := { d with bd := nb, dir := dir }) (.inr (.inr (.inr (.inr ⟨_, HFm.out, .inr he⟩))))); omega))⟩, ⟨Nat.le_trans HK6.out.1 hsz, fun k hk hn => (hz k (Nat.lt_of_lt_of_le hk HK6.out.1) (fun he => hn (he ▸ .inr (.inr (.inr (.inr ⟨_, HFd.out, .inl rfl⟩))))) (fun he => hn (.inr (.inr (.inr (.inr ⟨_, HFd.out, .inr he⟩)))))).trans (HK6.out.2 k hk hn), hos.1.trans HK6.out.os, hos.2.1.trans HK6.out.tape, hos.2.2.trans HK6.out.output⟩⟩))
            have hrel2 : Aside0 ((gF :: S ++ L'.map (·.2)).Perm (dir.map (·.2))) := ⟨List.perm_middle.symm.trans HP2.out⟩
            have hnn : nOf q ⟨gF, .slice A bF.length cF, bF, (sn : Int)⟩ = n := by rw [HN.out, HKV.out, HU.out]; rfl
            have hkk : kOf q ⟨gF, .slice A bF.length cF, bF, (sn : Int)⟩ = kv := by rw [HKV.out, HU.out]; rfl
            have HNN := Aside0.mk hnn
            have HKK := Aside0.mk hkk
            clear hnn hkk
            by_cases hk0 : 0 < kv ∧ q % 2 = 1
            · have hb1 : decide (0 < kv) = true := decide_eq_true hk0.1
              have hb2 : ((q : Int) % 2 == 1) = true := beq_iff_eq.2 (by have := hk0.2; omega)
              obtain ⟨n1, hn1⟩ : ∃ n1, n = n1 + 1 := ⟨n - 1, by have := HN.out; omega⟩
              have hl1 : n1 < n := by omega
              have a6 : IntKind.i64.wrap ((n : Int) - 1) = (n1 : Int) := by have := HNL.out; have := (HSF.out _ HFd.out).2.2; rw [IntKind.wrap_i64]; simp only at this; omega
              obtain ⟨gA, cF', he, _, _, _⟩ := Kd.R_form (HD6.out.hf _ HFm.out).hr (by have := HNL.out; simp only; omega)
              injection he with he1 he2 he3
              subst he1 he3
              have hrt := Kd.R_take (HD6.out.hf _ HFm.out).hr HNL.out
              obtain ⟨X, hX⟩ : ∃ X, X = rd (bF.take n) (n1 : Int) := ⟨_, rfl⟩
              have hlt : (bF.take n).length = n := by have := HNL.out; rw [List.length_take]; omega
              have hxc := (Kd.R_cell (enc := Value.int .u8) (h1 := fun _ => rfl) (xs := bF.take n) 0 (by rw [hlt]; exact hrt) (n1 : Int) (by omega) (by rw [hlt]; omega)).1
              replace hxc : w_.cell? ⟨gA, n1, none⟩ = some (.int .u8 X) := by rw [hX]; exact hxc
              obtain ⟨cs, hcs⟩ := HD6.out.f_typed HFm.out (k := gA) rfl
              have hx : cs[n1]? = some (.int .u8 X) := by rw [← hxc]; exact (blk_cell hcs n1).symm
              have hgA : gF ≠ gA := blk_ne s_ hcs (by decide)
              have hcs8 : (w_.setCell ⟨gF, 0, none⟩ (.slice (some ⟨gA, 0, none⟩) n cF)).drew.heap[gA]? = some (.cells cs 5 (0, 0)) := (Below.heap_setCell _ _ _ _ hgA.symm).trans hcs
              have HB0 := Aside0.mk (show crB q ⟨gF, .slice (some ⟨gA, 0, none⟩) bF.length cF, bF, (sn : Int)⟩ = (bF.take n).set n1 (bits .xor .u8 X 85) from by unfold crB; rw [HKK.out, HNN.out, if_pos hk0, hX]; simp only; rw [show ((n : Int) - 1) = (n1 : Int) from by omega, show n - 1 = n1 from by omega])
              have HDS := Aside0.mk (crashStep1 HD6.out.drew HFm.out (i := n1) (x := bits .xor .u8 X 85) rfl HNL.out)
              have HGA := Aside0.mk hgA
              clear hk0 hn1 hrt hX hlt hxc hcs hgA he2
              go_wp2
              refine hstart (fun w' => w'.heap[gF]? = some (.cells #[.slice (some ⟨gA, 0, none⟩) n cF, .int .i64 (sn : Int)] 62 (0, 0)) ∧ w'.heap[gA]? = some (.cells cs 5 (0, 0))) [14] 15 (by kernel_rfl) rfl (by kernel_rfl) (⟨blk_put s_ 0 _ rfl, hcs8⟩) (fun w8 hw_ s_ => ?_)
              have hw8 : w8 = w_.drew.setCell ⟨gF, 0, none⟩ (.slice (some ⟨gA, 0, none⟩) n cF) := hw_
              have HW8 := Aside0.mk hw8
              clear hw_ hw8
              refine hpure 0 (some 92) 1 [] (v := ?_) (a' := ?_) s_ rfl rfl (by kernel_rfl) (Or.inl ⟨by rfl, ?_⟩) ?_ ?_
              rotate_left
              · intro w' s0; go_simp; with_reducible rfl
              rotate_left
              · simp only [Act.put, List.setIfInBounds_toArray, List.set_cons_zero, List.set_cons_succ, i64_w, i32_w]; rfl
              refine hpure 1 (some 93) 2 [] (v := ?_) (a' := ?_) s_ rfl rfl (by kernel_rfl) (Or.inl ⟨by rfl, ?_⟩) ?_ ?_
              rotate_left
              · intro w' s0; go_simp; with_reducible rfl
              rotate_left
              · simp only [Act.put, List.setIfInBounds_toArray, List.set_cons_zero, List.set_cons_succ, i64_w, i32_w]; rfl
              refine hpure 2 (some 94) 3 [] (v := ?_) (a' := ?_) s_ rfl rfl (by kernel_rfl) (Or.inl ⟨by rfl, ?_⟩) ?_ ?_
              rotate_left
              · intro w' s0; go_simp; with_reducible rfl
              rotate_left
              · simp only [Act.put, List.setIfInBounds_toArray, List.set_cons_zero, List.set_cons_succ, i64_w, i32_w]; rfl
              refine hpure 3 (some 95) 4 [] (v := ?_) (a' := ?_) s_ rfl rfl (by kernel_rfl) (Or.inl ⟨by rfl, ?_⟩) ?_ ?_
              rotate_left
              · intro w' s0; have s1 : w'.cell? ⟨gF, 0, none⟩ = some (.slice (some ⟨gA, 0, none⟩) n cF) := blk_cell s0.1 0; go_simp; with_reducible rfl
              rotate_left
              · simp only [Act.put, List.setIfInBounds_toArray, List.set_cons_zero, List.set_cons_succ, i64_w, i32_w]; rfl
              refine hpure 4 (some 96) 5 [] (v := ?_) (a' := ?_) s_ rfl rfl (by kernel_rfl) (Or.inl ⟨by rfl, ?_⟩) ?_ ?_
              rotate_left
              · intro w' s0; go_simp; with_reducible rfl
              rotate_left
              · simp only [Act.put, List.setIfInBounds_toArray, List.set_cons_zero, List.set_cons_succ, i64_w, i32_w]; rfl
              refine hpure 5 (some 97) 6 [] (v := ?_) (a' := ?_) s_ rfl rfl (by kernel_rfl) (Or.inl ⟨by rfl, ?_⟩) ?_ ?_
              rotate_left
              · intro w' s0; go_simp; with_reducible rfl
              rotate_left
              · simp only [Act.put, List.setIfInBounds_toArray, List.set_cons_zero, List.set_cons_succ, i64_w, i32_w]; rfl
              refine hpure 6 (some 98) 7 [] (v := ?_) (a' := ?_) s_ rfl rfl (by kernel_rfl) (Or.inl ⟨by rfl, ?_⟩) ?_ ?_
              rotate_left
              · intro w' s0; go_simp; with_reducible rfl
              rotate_left
              · simp only [Act.put, List.setIfInBounds_toArray, List.set_cons_zero, List.set_cons_succ, i64_w, i32_w]; rfl
              refine hpure 7 (some 99) 8 [] (v := ?_) (a' := ?_) s_ rfl rfl (by kernel_rfl) (Or.inl ⟨by rfl, ?_⟩) ?_ ?_
              rotate_left
              · intro w' s0; have s1 : w'.cell? ⟨gF, 0, none⟩ = some (.slice (some ⟨gA, 0, none⟩) n cF) := blk_cell s0.1 0; go_simp; with_reducible rfl
              rotate_left
              · simp only [Act.put, List.setIfInBounds_toArray, List.set_cons_zero, List.set_cons_succ, i64_w, i32_w]; rfl
              refine hpure 8 (some 100) 9 [] (v := ?_) (a' := ?_) s_ rfl rfl (by kernel_rfl) (Or.inl ⟨by rfl, ?_⟩) ?_ ?_
              rotate_left
              · intro w' s0; go_simp; with_reducible rfl
              rotate_left
              · simp only [Act.put, List.setIfInBounds_toArray, List.set_cons_zero, List.set_cons_succ, i64_w, i32_w]; rfl
              refine hpure 9 (some 101) 10 [] (v := ?_) (a' := ?_) s_ rfl rfl (by kernel_rfl) (Or.inl ⟨by rfl, ?_⟩) ?_ ?_
              rotate_left
              · intro w' s0; go_simp; with_reducible rfl
              rotate_left
              · simp only [Act.put, List.setIfInBounds_toArray, List.set_cons_zero, List.set_cons_succ, i64_w, i32_w]; rfl
              refine hpure 10 (some 102) 11 [] (v := ?_) (a' := ?_) s_ rfl rfl (by kernel_rfl) (Or.inl ⟨by rfl, ?_⟩) ?_ ?_
              rotate_left
              · intro w' s0; go_simp; with_reducible rfl
              rotate_left
              · simp only [Act.put, List.setIfInBounds_toArray, List.set_cons_zero, List.set_cons_succ, i64_w, i32_w]; rfl
              refine hpure 11 (some 103) 12 [] (v := ?_) (a' := ?_) s_ rfl rfl (by kernel_rfl) (Or.inl ⟨by rfl, ?_⟩) ?_ ?_
              rotate_left
              · intro w' s0; have s1 : w'.cell? ⟨gA, n1, none⟩ = some (.int .u8 X) := (blk_cell s0.2 n1).trans hx; go_simp; with_reducible rfl
              rotate_left
              · simp only [Act.put, List.setIfInBounds_toArray, List.set_cons_zero, List.set_cons_succ, i64_w, i32_w]; rfl
              refine hpure 12 (some 104) 13 [] (v := ?_) (a' := ?_) s_ rfl rfl (by kernel_rfl) (Or.inl ⟨by rfl, ?_⟩) ?_ ?_
              rotate_left
              · intro w' s0; go_simp; with_reducible rfl
              rotate_left
              · simp only [Act.put, List.setIfInBounds_toArray, List.set_cons_zero, List.set_cons_succ, i64_w, i32_w]; rfl
              refine hpure 13 (some 105) 14 [] (v := ?_) (a' := ?_) s_ rfl rfl (by kernel_rfl) (Or.inl ⟨by rfl, ?_⟩) ?_ ?_
              rotate_left
              · intro w' s0; go_simp; with_reducible rfl
              rotate_left
              · simp only [Act.put, List.setIfInBounds_toArray, List.set_cons_zero, List.set_cons_succ, i64_w, i32_w]; rfl
              refine hone 14 none 15 [] rfl rfl (by kernel_rfl) (fun K hK => ?_)
              have hcz : w8.cell? ⟨gA, n1, none⟩ = some (.int .u8 X) := (blk_cell s_.2 n1).trans hx
              have hfz := blk_frozen s_.2 n1
              refine skip_ (w1 := w8.setCell ⟨gA, n1, none⟩ (.int .u8 (bits .xor .u8 X 85))) (by rfl) rfl (by go_simp) (hK.out (fun _ => False) _ _ (fun _ h => h.elim) (fun hn => absurd (by decide) hn) ?_)
              clear hK K hcz hfz
              refine hdone (by kernel_rfl) ?_
              go_upto_region 18 with (fail)
              have h9 : (w8.setCell ⟨gA, n1, none⟩ (.int .u8 (bits .xor .u8 X 85))).heap[gF]? = some (.cells #[.slice (some ⟨gA, 0, none⟩) n cF, .int .i64 (sn : Int)] 62 (0, 0)) := (Below.heap_setCell _ _ _ _ HGA.out).trans s_.1
              obtain ⟨hq1, hq2⟩ := HFIN.out ((w8.setCell ⟨gA, n1, none⟩ (.int .u8 (bits .xor .u8 X 85))).setCell ⟨gF, 1, none⟩ (.int .i64 (n : Int))) (by rw [HW8.out]; simp [World.setCell]) (by rw [HW8.out]; exact ⟨rfl, rfl, rfl⟩) (fun k hk h1 h2 => by
                rw [HW8.out]
                exact (Below.heap_setCell _ _ _ _ h1).trans ((Below.heap_setCell _ _ _ _ (fun he => h2 (by rw [he]; rfl))).trans (Below.heap_setCell _ _ _ _ h1)))
              have HQ1 := Aside0.mk hq1.out
              have HQ2 := Aside0.mk hq2.out
              have HDZ : Aside0 (DiskAt ((w8.setCell ⟨gA, n1, none⟩ (.int .u8 (bits .xor .u8 X 85))).setCell ⟨gF, 1, none⟩ (.int .i64 (n : Int))) { d with bd := nb, dir := dir, fs := fsD q (gF :: S) d.fs }) := ⟨by
                have hfs : updF (fsD q S d.fs) gF (fun x => { x with v := .slice (some ⟨gA, 0, none⟩) n cF, bs := (bF.take n).set n1 (bits .xor .u8 X 85), safe := (n : Int) }) = fsD q (gF :: S) d.fs := fsD_step HGg.out HFd.out HGS.out (by unfold crF; rw [HNN.out, HB0.out]; rfl)
                rw [HW8.out, ← hfs]
                exact HDS.out⟩
              clear hq1 hq2 HDS
              generalize hw9 : w8.setCell _ _ = w9 at *
              have hw0 : w9.cell? ⟨gF, 0, none⟩ = some (.slice (some ⟨gA, 0, none⟩) n cF) := blk_cell h9 0
              have hw1 : w9.cell? ⟨gF, 1, none⟩ = some (.int .i64 (sn : Int)) := blk_cell h9 1
              have hf1 := blk_frozen h9 1
              clear hw9 h9
              go_wp2
              go_roundg k1
              case measure => omega
              case rel => exact ⟨L', gF :: S, hrel1, hrel2, HQ1, HDZ, HQ2⟩
            · have hch : decide (0 < kv) = false ∨ (((q : Int) % 2 == 1) = false ∧ decide (0 < kv) = true) := by
                by_cases hk1 : 0 < kv
                · exact .inr ⟨beq_eq_false_iff_ne.mpr (fun he => hk0 ⟨hk1, by omega⟩), decide_eq_true hk1⟩
                · exact .inl (decide_eq_false hk1)
              have HB0 := Aside0.mk (show crB q ⟨gF, .slice A bF.length cF, bF, (sn : Int)⟩ = bF.take n from by unfold crB; rw [HKK.out, HNN.out, if_neg hk0])
              clear hk0
              have hw0 : w_.cell? ⟨gF, 0, none⟩ = some (.slice A bF.length cF) := blk_cell s_ 0
              have hw1 : w_.cell? ⟨gF, 1, none⟩ = some (.int .i64 (sn : Int)) := blk_cell s_ 1
              have hf1 := blk_frozen s_ 1
              have HDS := Aside0.mk (crashStep0 HD6.out HFm.out rfl HNL.out)
              rcases hch with hch | ⟨hch, hch2⟩
              all_goals
                go_wp2
                go_roundg k1
                case measure => omega
                case rel =>
                  obtain ⟨hq1, hq2⟩ := HFIN.out ((w_.setCell ⟨gF, 0, none⟩ (.slice A n cF)).setCell ⟨gF, 1, none⟩ (.int .i64 (n : Int))) (by simp [World.setCell]) ⟨rfl, rfl, rfl⟩ (fun k hk h1 _ => (Below.heap_setCell _ _ _ _ h1).trans (Below.heap_setCell _ _ _ _ h1))
                  refine ⟨L', gF :: S, hrel1, hrel2, hq1, ⟨?_⟩, hq2⟩
                  have hx := HDS.out
                  have hfs : updF (fsD q S d.fs) gF (fun x => { x with v := .slice A n cF, bs := bF.take n, safe := (n : Int) }) = fsD q (gF :: S) d.fs := fsD_step HGg.out HFd.out HGS.out (by unfold crF; rw [HNN.out, HB0.out]; rfl)
                  rw [← hfs]
                  exact hx
end Go.Proofs.Ytoninmgglcepmaa.Dk
