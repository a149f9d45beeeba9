/- Append in its three ways; a run of the document's: the walk of known. -/
import Derived.Test.YtoninmgglcepmaaD9
import Derived.Lib.SlBytesConst
namespace Go.Proofs.Ytoninmgglcepmaa.Dk
open RegD Go.RowKit Go.ChangeMaps Go.Proofs.YtoninmgglcepmaaW.PrintWords Go.Proofs.YtoninmgglcepmaaW.PrintLast Go.Proofs.YtoninmgglcepmaaW.PrintMore Mp
attribute [local go_sem] max2_int min2_int max_two min_two max_three min_three max_four min_four
set_option linter.unusedVariables false
set_option linter.unusedSimpArgs false
/-- The disk is all new since w0, nothing else has been written. -/
structure St (w0 w : World) (d : DSt) : Prop where
  at_ : DiskAt w d
  kept : Kept w0 w (fun _ => False)
  own : ∀ k, Foot d k → w0.heap.size ≤ k
theorem St.below {w0 w : World} {d : DSt} (h : St w0 w d) : Below w0.heap.size w0 w := h.kept.toBelow (fun _ hk => hk.elim)
theorem St.step {w0 w w' : World} {d d' : DSt} (h : St w0 w d) (hd : DiskAt w' d') (hk : Kept w w' (Foot d)) (hf : ∀ k, Foot d' k → Foot d k ∨ w.heap.size ≤ k) : St w0 w' d' :=
  ⟨hd, h.kept.then_ hk (fun k hF => .inr (h.own k hF)), fun k hF => (hf k hF).elim (h.own k) (fun hk2 => Nat.le_trans h.kept.1 hk2)⟩
theorem St.more {w0 w w' : World} {d : DSt} (h : St w0 w d) (hb : Below w.heap.size w w') : St w0 w' d := ⟨h.at_.below hb, h.kept.below hb, h.own⟩
theorem St.new (w : World) : St w (newW w) (newD w) := ⟨newAt w, Kept.of_below (new_below w) _, fun k hk => by
  rcases hk with h | h | h | h | ⟨f, hf, _⟩
  · rw [h]; show w.heap.size ≤ w.heap.size + 2; omega
  · rw [h]; exact Nat.le_refl _
  · rw [h]; show w.heap.size ≤ w.heap.size + 1; omega
  · cases h
  · cases hf⟩
/-- What Append asks for. -/
structure Fit (d : DSt) (n : Nat) : Prop where
  ok : Ok d
  sum : n + sumL d d.dir ≤ 1000000000000
  chg : d.chg.length ≤ 1000000000
  dir : d.dir.length ≤ 1000000000
  quota : -9223372036854775808 ≤ d.quota ∧ d.quota ≤ 9223372036854775807
/-- Bytes that came in, or are new but no part of the disk. -/
structure Bytes (w : World) (d : DSt) (A : Option Addr) (b : List Int) : Prop where
  c : Kd.C (Kd.int .u8) w A b.length b
  off : 0 < b.length → ∀ ad, A = some ad → ad.block < w.heap.size ∧ ¬ Foot d ad.block
def addF (d : DSt) (name : ByteArray) (b : List Int) (g : Nat) (v1 vch1 : Value) : DSt :=
  { d with dir := putM d.dir name g, vch := vch1, chg := d.chg ++ [⟨0, name, ⟨#[]⟩, some g⟩], fs := d.fs ++ [⟨g, v1, b, 0⟩], quota := newQ d b.length }
def growF (d : DSt) (f : FS) (b : List Int) (v1 : Value) : DSt :=
  { d with fs := updF d.fs f.g fun x => { x with v := v1, bs := f.bs ++ b, safe := f.safe }, quota := newQ d b.length }
section
variable {w0 w : World} {d : DSt} (h : St w0 w d) {name : ByteArray} {A : Option Addr} {cp : Nat} {b : List Int} (hf : Fit d b.length) (hb : Bytes w d A b)
include h hf hb
theorem appNew (h0 : appE d name b.length = 0) (hn : getM d.dir name = none) : Calls Try.prog 13 #[.pointer (some ⟨d.gd, 0, none⟩), .string name, .slice A b.length cp] w fun e w' => e = .returned (.int .i64 0) ∧
    ∃ g v1 vch1, (∀ f ∈ d.fs, f.g ≠ g) ∧ St w0 w' (addF d name b g v1 vch1) := by
  refine (appendC h.at_ hf.ok name A cp b hb.c hf.sum hf.chg hf.dir hf.quota hb.off).mono fun e w' ⟨he, hh⟩ => ?_
  refine ⟨by rw [he, h0], ?_⟩
  rcases hh with ⟨hc, _⟩ | ⟨_, d', hA, hD, hK, hF⟩
  · exact absurd h0 hc
  · rcases hA with ⟨f, v1, _, hg, _⟩ | ⟨g, v1, vch1, _, hg, rfl⟩
    · rw [hn] at hg; cases hg
    · exact ⟨g, v1, vch1, hg, h.step hD hK hF⟩
theorem appOld (h0 : appE d name b.length = 0) {f : FS} (hm : f ∈ d.fs) (hn : getM d.dir name = some f.g) : Calls Try.prog 13 #[.pointer (some ⟨d.gd, 0, none⟩), .string name, .slice A b.length cp] w fun e w' => e = .returned (.int .i64 0) ∧
    ∃ v1, St w0 w' (growF d f b v1) := by
  refine (appendC h.at_ hf.ok name A cp b hb.c hf.sum hf.chg hf.dir hf.quota hb.off).mono fun e w' ⟨he, hh⟩ => ?_
  refine ⟨by rw [he, h0], ?_⟩
  rcases hh with ⟨hc, _⟩ | ⟨_, d', hA, hD, hK, hF⟩
  · exact absurd h0 hc
  · rcases hA with ⟨f', v1, hm', hg, rfl⟩ | ⟨g, v1, vch1, hg, _, _⟩
    · obtain rfl : f' = f := h.at_.hg f' hm' f hm (by rw [hn] at hg; injection hg with hg; exact hg.symm)
      exact ⟨v1, h.step hD hK hF⟩
    · rw [hn] at hg; cases hg
theorem appNo (h0 : appE d name b.length ≠ 0) : Calls Try.prog 13 #[.pointer (some ⟨d.gd, 0, none⟩), .string name, .slice A b.length cp] w fun e w' => e = .returned (.int .i64 (appE d name b.length)) ∧ St w0 w' d := by
  refine (appendC h.at_ hf.ok name A cp b hb.c hf.sum hf.chg hf.dir hf.quota hb.off).mono fun e w' ⟨he, hh⟩ => ?_
  refine ⟨he, ?_⟩
  rcases hh with ⟨_, hD, hB⟩ | ⟨hc, _⟩
  · exact h.more hB
  · exact absurd hc h0
end
theorem stNew (w : World) : Calls Try.prog 11 #[] w fun e w' => ∃ gd bd bs vch, e = .returned (.pointer (some ⟨gd, 0, none⟩)) ∧ St w w' ⟨gd, bd, bs, vch, -1, [], [], [], []⟩ :=
  (newC w).mono fun e w' ⟨h1, h2⟩ => ⟨_, _, _, _, h1, h2 ▸ St.new w⟩
section
variable {w0 w : World} {d : DSt} (h : St w0 w d)
include h
theorem stSyncDir : Calls Try.prog 17 #[.pointer (some ⟨d.gd, 0, none⟩)] w fun e w' => e = .returned (.tuple #[]) ∧ ∃ nb, St w0 w' (syncD d nb) := by
  refine (syncDirC h.at_).mono fun e w' ⟨he, hD, hK⟩ => ⟨he, _, h.step hD hK fun k hk => ?_⟩
  rcases hk with hk | hk | hk | hk | hk
  · exact .inl (.inl hk)
  · exact .inl (.inr (.inl hk))
  · exact .inr (Nat.le_of_eq hk.symm)
  · cases hk
  · exact .inl (.inr (.inr (.inr (.inr hk))))
theorem stSync (s : ByteArray) {f : FS} (hf : f ∈ d.fs) (hn : (findR d s).1 = some f.g) : Calls Try.prog 16 #[.pointer (some ⟨d.gd, 0, none⟩), .string s] w fun e w' => e = .returned (.int .i64 0) ∧ St w0 w' { d with fs := updF d.fs f.g fun x => { x with v := f.v, bs := f.bs, safe := (f.bs.length : Int) } } := by
  refine (syncOk h.at_ s hf hn).mono fun e w' ⟨he, hD, hK⟩ => ⟨he, h.step hD hK fun k hk => ?_⟩
  rcases hk with hk | hk | hk | hk | ⟨x, hx, hk⟩
  · exact .inl (.inl hk)
  · exact .inl (.inr (.inl hk))
  · exact .inl (.inr (.inr (.inl hk)))
  · exact .inl (.inr (.inr (.inr (.inl hk))))
  · obtain ⟨f', hf', ⟨e1, rfl⟩ | ⟨e1, rfl⟩⟩ := mem_updF hx
    · rcases hk with hk | hk
      · exact .inl (.inr (.inr (.inr (.inr ⟨f', hf', .inl hk⟩))))
      · exact .inl (.inr (.inr (.inr (.inr ⟨f, hf, .inr hk⟩))))
    · exact .inl (.inr (.inr (.inr (.inr ⟨_, hf', hk⟩))))
theorem stQuota (q : Int) : Calls Try.prog 12 #[.pointer (some ⟨d.gd, 0, none⟩), .int .i64 q] w fun e w' => e = .returned (.tuple #[]) ∧ St w0 w' { d with quota := q } := by
  refine (quotaC h.at_ q).mono fun e w' ⟨he, hw⟩ => ⟨he, ?_⟩
  subst hw
  exact h.step (h.at_.put_quota q) (Kept.of_grown (grown_set (Below.refl _ _) d.gd 3 _) (Kept.refl _ _) (fun k hk => by injection hk with hk; exact .inl (.inl hk.symm))) (fun k hk => .inl hk)
theorem stCrash (pick : Int) (P : Nat) (hp : (P : Int) = if pick < 0 then -(pick + 1) else pick) (hpb : -9223372036854775808 ≤ pick ∧ pick ≤ 9223372036854775807) (hch : d.chg.length ≤ 1000000000) {l0 : List (ByteArray × Nat)} (hrun : runM d.safe d.chg = some l0)
    {dirP : List (ByteArray × Nat)} (hdp : runM d.safe (d.chg.take (P % (d.chg.length + 1))) = some dirP) (hok : ∀ p ∈ dirP, ∃ f ∈ d.fs, f.g = p.2) (hnd : (dirP.map (·.2)).Nodup) (hsf : ∀ f ∈ d.fs, 0 ≤ f.safe ∧ f.safe ≤ f.bs.length ∧ f.bs.length ≤ 1000000000000) :
    Calls Try.prog 18 #[.pointer (some ⟨d.gd, 0, none⟩), .int .i64 pick] w fun e w' => e = .returned (.tuple #[]) ∧ ∃ nb1 nb2, St w0 w' (crashD d dirP (P / (d.chg.length + 1)) nb1 nb2) := by
  refine (crashC h.at_ pick P hp hpb hch hrun hdp hok hnd hsf).mono fun e w' ⟨he, nb1, nb2, h1, h2, hD, hK⟩ => ⟨he, nb1, nb2, h.step hD hK fun k hk => ?_⟩
  rcases hk with hk | hk | hk | hk | ⟨x, hx, hk⟩
  · exact .inl (.inl hk)
  · exact .inr (by rw [hk]; exact h1)
  · exact .inr (by rw [hk]; exact h2)
  · cases hk
  · refine .inl (foot_fsD (q := P / (d.chg.length + 1)) (S := dirP.map (fun x : ByteArray × Nat => x.2)) (d := d) (.inr (.inr (.inr (.inr ⟨x, hx, hk⟩)))))
end
/-- A small disk. -/
structure Small (d : DSt) : Prop where
  ok : Ok d
  len : ∀ f ∈ d.fs, f.bs.length ≤ 100000
  dir : d.dir.length ≤ 100
  chg : d.chg.length ≤ 100
  quota : -9223372036854775808 ≤ d.quota ∧ d.quota ≤ 9223372036854775807
theorem lenOf_le {d : DSt} {B : Nat} (h : ∀ f ∈ d.fs, f.bs.length ≤ B) (g : Nat) : lenOf d g ≤ B := by
  unfold lenOf
  cases hx : d.fs.find? fun f => decide (f.g = g) with
  | none => exact Nat.zero_le _
  | some x => exact h x (List.mem_of_find?_eq_some hx)
theorem sumL_le {d : DSt} {B : Nat} (h : ∀ f ∈ d.fs, f.bs.length ≤ B) (L : List (ByteArray × Nat)) : sumL d L ≤ L.length * B := by
  induction L with
  | nil => exact Nat.zero_le _
  | cons p L ih =>
    have h1 := lenOf_le h p.2
    have h2 : sumL d (p :: L) = lenOf d p.2 + sumL d L := by simp [sumL]
    rw [h2, List.length_cons, Nat.succ_mul]
    omega
theorem Small.sum {d : DSt} (h : Small d) : sumL d d.dir ≤ 10000000 := by
  have h1 := sumL_le h.len d.dir
  have h2 := Nat.mul_le_mul_right 100000 h.dir
  omega
theorem Small.fit {d : DSt} (h : Small d) {n : Nat} (hn : n ≤ 100000) : Fit d n :=
  ⟨h.ok, by have := h.sum; omega, by have := h.chg; omega, by have := h.dir; omega, h.quota⟩
theorem Small.zero {d : DSt} (h : Small d) {n : Nat} (hn : n ≤ 100000) {name : ByteArray} (hb : badName name = false) (hq : d.quota < 0 ∨ (n : Int) ≤ d.quota) : appE d name n = 0 := by
  unfold appE
  have h1 := h.sum
  have h2 := h.dir
  rw [if_neg (by rw [hb]; decide), if_neg (by omega), if_neg (by omega)]
theorem Small.full {d : DSt} (h : Small d) {n : Nat} (hn : n ≤ 100000) {name : ByteArray} (hb : badName name = false) (hq : 0 ≤ d.quota ∧ d.quota < (n : Int)) : appE d name n = 13 := by
  unfold appE
  have h1 := h.sum
  have h2 := h.dir
  rw [if_neg (by rw [hb]; decide), if_neg (by omega), if_pos (.inr hq)]
theorem find_of {d : DSt} {s : ByteArray} {g : Nat} (hb : badName s = false) (hg : getM d.dir s = some g) : (findR d s).1 = some g := by
  unfold findR
  rw [if_neg (by rw [hb]; decide), hg]
theorem add0 (g j : Nat) : (⟨g, 0, none⟩ : Addr).add j = ⟨g, j, none⟩ := by unfold Addr.add; split <;> simp_all
/-- Bytes laid out in one block. -/
theorem reads_block {w : World} {g : Nat} {cs : Array Value} {fr : Nat × Nat} {xs : List Int} (hb : w.heap[g]? = some (.cells cs 5 fr)) (hc : ∀ j, j < xs.length → cs[j]? = some (.int .u8 (xs.getD j 0))) (hm : xs.length ≤ maxLen) : Kd.C (Kd.int .u8) w (some ⟨g, 0, none⟩) xs.length xs :=
  Kd.C_of_reads (d := (0 : Int)) (h1 := fun _ => rfl) (show ReadsInt w .u8 (some ⟨g, 0, none⟩) xs.length xs from ⟨rfl, hm, fun _ => ⟨_, rfl, fun j hj => by rw [add0, cell_of_row w g j cs 5 fr hb]; exact hc j hj⟩⟩)
theorem bytes_new {w0 w : World} {d : DSt} (h : St w0 w d) {cs : Array Value} {fr : Nat × Nat} {xs : List Int} (hc : ∀ j, j < xs.length → cs[j]? = some (.int .u8 (xs.getD j 0))) (hm : xs.length ≤ maxLen) : Bytes (w.alloc (.cells cs 5 fr)) d (some ⟨w.heap.size, 0, none⟩) xs :=
  ⟨reads_block (blk_new w _) hc hm, fun _ ad he => by
    injection he with he
    subst he
    exact ⟨by rw [alloc_size]; exact Nat.lt_succ_self _, fun hF => Nat.lt_irrefl _ (h.at_.foot hF)⟩⟩
theorem St.alloc {w0 w : World} {d : DSt} (h : St w0 w d) (o : Obj) : St w0 (w.alloc o) d := h.more (below_alloc (Below.refl _ _) o)
set_option maxHeartbeats 8000000 in
set_option maxRecDepth 100000 in
theorem knownC (w : World) : Calls Try.prog 15 #[] w fun e w' => e = .returned (.bool true) ∧ Below w.heap.size w w' := by
  have hN := Lib.hid (stNew w)
  go_enter Try.func15, Try.ntmps15
  go_upto_region 4 with (go_at_call 11; refine hN.out.mono ?_; rintro e w1 ⟨gd, bd, bs, vch, rfl, hS⟩; have HS0 := Aside0.mk hS; clear hS)
  have HS := Aside0.mk (HS0.out.alloc (.cells #[.int .u8 120, .int .u8 121] 5 (2, 3)))
  have HB := Aside0.mk (bytes_new HS0.out (cs := #[.int .u8 120, .int .u8 121]) (fr := (2, 3)) (xs := [120, 121]) (fun j hj => by match j, hj with | 0, _ => rfl | 1, _ => rfl) (by decide))
  have hconv := Lib.run_convert_bytes_const w1 29 5 #[.int .u8 120, .int .u8 121] 2 2 Try.underlying29 Try.underlying5
  have hs0 : Small ⟨gd, bd, bs, vch, -1, [], [], [], []⟩ := ⟨fun p hp => (by cases hp), fun f hf => (by cases hf), Nat.zero_le _, Nat.zero_le _, ⟨(by decide : (-9223372036854775808 : Int) ≤ -1), (by decide : (-1 : Int) ≤ 9223372036854775807)⟩⟩
  have hA := Lib.hid (appNew HS.out (name := ⟨#[97]⟩) (cp := 2) (b := [120, 121]) (hs0.fit (by decide)) HB.out (hs0.zero (by decide) (by decide +kernel) (.inl (show (-1 : Int) < 0 by decide))) rfl)
  go_upto_region 5 with (go_at_call 13; refine hA.out.mono ?_; rintro e w2 ⟨rfl, g, v1, vch1, -, hS⟩; have HS2 := Aside0.mk hS; clear hS)
  have HS3 : Aside0 (St w w2 ⟨gd, bd, bs, vch1, -1, [(⟨#[97]⟩, g)], [], [⟨0, ⟨#[97]⟩, ⟨#[]⟩, some g⟩], [⟨g, v1, [120, 121], 0⟩]⟩) := HS2
  have hSD := Lib.hid (stSyncDir HS3.out)
  go_upto_region 6 with (go_at_call 17; refine hSD.out.mono ?_; rintro e w3 ⟨rfl, nb, hS⟩; have HS4 : Aside0 (St w w3 ⟨gd, bd, nb, .slice none 0 0, -1, [(⟨#[97]⟩, g)], [(⟨#[97]⟩, g)], [], [⟨g, v1, [120, 121], 0⟩]⟩) := ⟨hS⟩; clear hS)
  have hCr := Lib.hid (stCrash HS4.out 1 1 rfl (by decide) (Nat.zero_le _) rfl (dirP := [(⟨#[97]⟩, g)]) (by rw [List.take_nil]; rfl) (by simp) (by simp) (by simp))
  go_upto_region 7 with (go_at_call 18; refine hCr.out.mono ?_; rintro e w4 ⟨rfl, nb1, nb2, hS⟩; have HS5 := Aside0.mk hS; clear hS)
  have hfs : crF 1 ⟨g, v1, [120, 121], 0⟩ ∈ fsD 1 [g] [⟨g, v1, [120, 121], 0⟩] := by simp [fsD]
  have hcb : (crF 1 ⟨g, v1, [120, 121], 0⟩).bs = [45] := by
    have hk : kOf 1 ⟨g, v1, [120, 121], 0⟩ = 1 := by simp [kOf]
    have hn : nOf 1 ⟨g, v1, [120, 121], 0⟩ = 1 := by unfold nOf; rw [hk]; rfl
    show crB 1 ⟨g, v1, [120, 121], 0⟩ = [45]
    unfold crB
    rw [hk, hn, if_pos (by decide)]
    show (([120, 121] : List Int).take 1).set 0 (bits .xor .u8 (rd (([120, 121] : List Int).take 1) (((1 : Nat) : Int) - 1)) 85) = [45]
    decide +kernel
  have hRd := Lib.hid (readOk HS5.out.at_ ⟨#[97]⟩ (f := crF 1 ⟨g, v1, [120, 121], 0⟩) hfs (find_of (by decide +kernel) (by simp [crashD, getM]; rfl)) (by rw [hcb]; decide))
  go_upto_region 8 with (go_at_call 14; refine hRd.out.mono ?_; rintro e w5 ⟨v5, rfl, hr, hb⟩; rw [hcb] at hr; obtain ⟨A5, c5, e5, _, hC5⟩ := Kd.R_reads hr; subst e5; have hcv : (convert 29 9 (.slice A5 1 c5)).run Try.prog w5 = .ok (.string ⟨#[45]⟩) w5 := Kd.C_string Try.underlying29 Try.underlying5 Try.underlying9 hC5; have HBz := Aside0.mk ((HS5.out.more hb).below); clear hr hb hC5)
  go_wp2
  go_ret
  exact ⟨rfl, HBz.out⟩
end Go.Proofs.Ytoninmgglcepmaa.Dk
