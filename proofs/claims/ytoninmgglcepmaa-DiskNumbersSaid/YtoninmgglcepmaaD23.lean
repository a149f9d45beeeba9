/- DiskNumbers: the walk. -/
import Derived.Test.YtoninmgglcepmaaD22
import Derived.Test.YtoninmgglcepmaaDH
namespace Go.Proofs.Ytoninmgglcepmaa.Dk
open Go.ChangeMaps hiding rd
open RegD Go.RowKit Go.Proofs.YtoninmgglcepmaaW.PrintWords Go.Proofs.YtoninmgglcepmaaW.PrintLast Go.Proofs.YtoninmgglcepmaaW.PrintMore Mp
attribute [local go_sem] max2_int min2_int max_two min_two max_three min_three max_four min_four
set_option linter.unusedVariables false
set_option linter.unusedSimpArgs false
theorem bytes_nil (w : World) (d : DSt) : Bytes w d none [] := ⟨Kd.C_nil _ _, fun h => absurd h (Nat.lt_irrefl _)⟩
section
variable {w0 w : World} {d : DSt} (h : St w0 w d)
include h
theorem appV {name : ByteArray} {A : Option Addr} {cp : Nat} {b : List Int} (hf : Fit d b.length) (hb : Bytes w d A b) {v : Int} (hv : appE d name b.length = v) (h0 : v ≠ 0) : Calls Try.prog 13 #[.pointer (some ⟨d.gd, 0, none⟩), .string name, .slice A b.length cp] w fun e w' => e = .returned (.int .i64 v) ∧ St w0 w' d := by
  subst hv
  exact appNo h hf hb h0
theorem stTurn0 (s : ByteArray) (a x : Int) (hn : getM d.dir s = none) : Calls Try.prog 23 #[.pointer (some ⟨d.gd, 0, none⟩), .string s, .int .i64 a, .int .u8 x] w fun e w' => e = .returned (.bool false) ∧ St w0 w' d :=
  (turn0 h.at_ s a x hn).mono fun e w' ⟨he, hb⟩ => ⟨he, h.more hb⟩
theorem stTurn1 (s : ByteArray) (a x : Int) {f : FS} (hf : f ∈ d.fs) (hn : getM d.dir s = some f.g) (ha : ¬ (0 ≤ a ∧ a < f.bs.length)) : Calls Try.prog 23 #[.pointer (some ⟨d.gd, 0, none⟩), .string s, .int .i64 a, .int .u8 x] w fun e w' => e = .returned (.bool false) ∧ St w0 w' d :=
  (turn1 h.at_ s a x hf hn ha).mono fun e w' ⟨he, hb⟩ => ⟨he, h.more hb⟩
theorem stTurn2 (s : ByteArray) (a : Nat) (x : Int) {f : FS} (hf : f ∈ d.fs) (hn : getM d.dir s = some f.g) (ha : a < f.bs.length) : Calls Try.prog 23 #[.pointer (some ⟨d.gd, 0, none⟩), .string s, .int .i64 (a : Int), .int .u8 x] w fun e w' => e = .returned (.bool true) ∧ St w0 w' (setF d f a (bits .xor .u8 (rd f.bs (a : Int)) x)) :=
  (turn2 h.at_ s a x hf hn ha).mono fun e w' ⟨he, hD, hG⟩ => ⟨he, h.goes hD hG⟩
end
def n31 : ByteArray := ⟨#[0, 0, 0, 0, 0, 0, 0, 0, 0, 0, 0, 0, 0, 0, 0, 0, 0, 0, 0, 0, 0, 0, 0, 0, 0, 0, 0, 0, 0, 0, 0]⟩
def n30 : ByteArray := ⟨#[0, 0, 0, 0, 0, 0, 0, 0, 0, 0, 0, 0, 0, 0, 0, 0, 0, 0, 0, 0, 0, 0, 0, 0, 0, 0, 0, 0, 0, 0]⟩
def nN : ByteArray := ⟨#[110, 111, 110, 101]⟩
def nQ : ByteArray := ⟨#[113]⟩
def nR : ByteArray := ⟨#[114]⟩
def nX : ByteArray := ⟨#[120]⟩
def nE : ByteArray := ⟨#[]⟩
theorem str31 : strOfNums (List.replicate 31 0) = n31 := by decide +kernel
theorem b31 : badName n31 = true := by decide +kernel
theorem b30 : badName n30 = false := by decide +kernel
theorem bN : badName nN = false := by decide +kernel
theorem bQ : badName nQ = false := by decide +kernel
theorem bR : badName nR = false := by decide +kernel
theorem bX : badName nX = false := by decide +kernel
theorem bE : badName nE = true := by decide +kernel
theorem nNe : n30 ≠ nN ∧ n30 ≠ nQ ∧ n30 ≠ nR ∧ nQ ≠ nR := by decide +kernel
theorem made_at (k j : Nat) (hj : j < (List.replicate k (0 : Int)).length) : (madeCells #[.int .u8 0] k)[j]? = some (.int .u8 ((List.replicate k (0 : Int)).getD j 0)) := by
  rw [List.length_replicate] at hj
  have h0 : (List.replicate k (0 : Int)).getD j 0 = 0 := by simp [List.getD_eq_getElem?_getD, hj]
  rw [h0]
  have h1 : j % 1 = 0 := Nat.mod_one j
  simp [madeCells, hj, h1]
/-- So many bytes that are 0, whatever they are. -/
theorem bytes_made {w0 w : World} {d : DSt} (h : St w0 w d) (k : Nat) (hk : k ≤ 100000000) : ∃ xs : List Int, xs.length = k ∧ Bytes (w.alloc (.cells (madeCells #[.int .u8 0] k) 5)) d (some ⟨w.heap.size, 0, none⟩) xs :=
  ⟨List.replicate k 0, List.length_replicate, bytes_new h (fun j hj => made_at k j hj) (by rw [List.length_replicate]; unfold maxLen; omega)⟩
theorem bytes1 {w0 w : World} {d : DSt} (h : St w0 w d) (x : Int) : Bytes (w.alloc (.cells #[.int .u8 x] 5 (1, 2))) d (some ⟨w.heap.size, 0, none⟩) [x] :=
  bytes_new h (fun j hj => by match j, hj with | 0, _ => rfl) (by unfold maxLen; simp)
theorem bytes3 {w0 w : World} {d : DSt} (h : St w0 w d) (x y z : Int) : Bytes (w.alloc (.cells #[.int .u8 x, .int .u8 y, .int .u8 z] 5 (3, 4))) d (some ⟨w.heap.size, 0, none⟩) [x, y, z] :=
  bytes_new h (fun j hj => by match j, hj with | 0, _ => rfl | 1, _ => rfl | 2, _ => rfl) (by unfold maxLen; simp)
theorem bytes4 {w0 w : World} {d : DSt} (h : St w0 w d) (x y z u : Int) : Bytes (w.alloc (.cells #[.int .u8 x, .int .u8 y, .int .u8 z, .int .u8 u] 5 (4, 5))) d (some ⟨w.heap.size, 0, none⟩) [x, y, z, u] :=
  bytes_new h (fun j hj => by match j, hj with | 0, _ => rfl | 1, _ => rfl | 2, _ => rfl | 3, _ => rfl) (by unfold maxLen; simp)
theorem Inv.fitN {d : DSt} {n k : Nat} (h : Inv d n k) (hb : n * (n * k) ≤ 500000000000) (hn : n ≤ 1000) {m : Nat} (hm : m ≤ 100000000) : Fit d m := by
  have h1 := h.sum
  exact ⟨h.ok, by omega, by have := h.chg; omega, by have := h.dir.len; omega, h.quota⟩
theorem appE_0 {d : DSt} {s : ByteArray} {n : Nat} (hb : badName s = false) (hd : d.dir.length < 4096) (hs : n + sumL d d.dir ≤ 16777216) (hq : d.quota < 0 ∨ (n : Int) ≤ d.quota) : appE d s n = 0 := by
  unfold appE
  rw [if_neg (by rw [hb]; decide), if_neg (by omega), if_neg (by omega)]
theorem appE_13 {d : DSt} {s : ByteArray} {n : Nat} (hb : badName s = false) (hd : d.dir.length < 4096) (hs : 16777216 < n + sumL d d.dir ∨ (0 ≤ d.quota ∧ d.quota < (n : Int))) : appE d s n = 13 := by
  unfold appE
  rw [if_neg (by rw [hb]; decide), if_neg (by omega), if_pos hs]
theorem find_no {d : DSt} {s : ByteArray} (hb : badName s = false) (hg : getM d.dir s = none) : findR d s = (none, 25) := by
  unfold findR
  rw [if_neg (by rw [hb]; decide), hg]
theorem find_bad {d : DSt} {s : ByteArray} (hb : badName s = true) : findR d s = (none, 20) := by
  unfold findR
  rw [if_pos hb]
theorem crashN {w : World} {d : DSt} {n k : Nat} (h : DiskAt w d) (hi : Inv d n k) (hn : n ≤ 1000) (hk : n * k ≤ 1000000000000) (pick : Int) (P : Nat) (hp : (P : Int) = if pick < 0 then -(pick + 1) else pick) (hpb : -9223372036854775808 ≤ pick ∧ pick ≤ 9223372036854775807)
    {dirP : List (ByteArray × Nat)} (h1 : runM d.safe (d.chg.take (P % (d.chg.length + 1))) = some dirP) : Calls Try.prog 18 #[.pointer (some ⟨d.gd, 0, none⟩), .int .i64 pick] w fun e w' =>
    e = .returned (.tuple #[]) ∧ ∃ nb1 nb2, DiskAt w' (crashD d dirP (P / (d.chg.length + 1)) nb1 nb2) ∧ Goes w d w' (crashD d dirP (P / (d.chg.length + 1)) nb1 nb2) ∧ Inv (crashD d dirP (P / (d.chg.length + 1)) nb1 nb2) (n + 1) k := by
  obtain ⟨dirQ, h2, h3⟩ := hi.run (P % (d.chg.length + 1)) (Nat.le_of_lt_succ (Nat.mod_lt _ (Nat.succ_pos _)))
  rw [h1] at h2
  injection h2 with h2
  subst h2
  refine (crashC h pick P hp hpb (by have := hi.chg; omega) hi.now h1 h3.fs h3.vals (fun f hf => ?_)).mono fun e w' ⟨he, nb1, nb2, hn1, hn2, hD, hK⟩ => ⟨he, nb1, nb2, hD, ⟨hK, fun k hk => ?_, rfl⟩, hi.crash h1 _ _ _⟩
  · obtain ⟨a, b, c⟩ := hi.sf f hf
    exact ⟨a, b, by omega⟩
  · rcases hk with hk | hk | hk | hk | ⟨x, hx, hk⟩
    · exact .inl (.inl hk)
    · exact .inr (by rw [hk]; exact hn1)
    · exact .inr (by rw [hk]; exact hn2)
    · cases hk
    · refine .inl (foot_fsD (q := P / (d.chg.length + 1)) (S := dirP.map (fun x : ByteArray × Nat => x.2)) (d := d) (.inr (.inr (.inr (.inr ⟨x, hx, hk⟩)))))
theorem listEmpty {w : World} {d : DSt} {n k : Nat} (h : DiskAt w d) (hi : Inv d n k) (hn : n ≤ 1000) (hd : d.dir = []) : Calls Try.prog 20 #[.pointer (some ⟨d.gd, 0, none⟩)] w fun e w' => e = .returned (.slice none 0 0) ∧ DiskAt w' d ∧ Goes w d w' d :=
  (listG h hi hn).mono fun e w' ⟨v, he, _, hv, hD, hG⟩ => ⟨by rw [he, hv.2 hd], hD, hG⟩
theorem str121 : strOfNums [121] = ⟨#[121]⟩ := by decide +kernel
set_option maxHeartbeats 8000000 in
set_option maxRecDepth 100000 in
theorem numbersW (W : World) : Calls Try.prog 8 #[] W fun e w' => e = .returned (.bool true) ∧ Below W.heap.size W w' := by
  have hN := Lib.hid (stNew W)
  go_enter Try.func8, Try.ntmps8
  go_upto_region 4 with (go_at_call 11; refine hN.out.mono ?_; rintro e w1 ⟨gd, bd, bs, vch, rfl, hS⟩; have HS0 := Aside0.mk hS; clear hS)
  have hmk : ∀ W : World, (Instr.makeSlice 29 (.int .i64 31) (.int .i64 31)).run Try.prog W = .ok (.slice (some ⟨W.heap.size, 0, none⟩) 31 31) (W.alloc (.cells (madeCells #[.int .u8 0] 31) 5)) := print_make (P := Try.prog) 29 5 .u8 1 Try.underlying29 info5 (by decide) 31 (by omega)
  have HS1 := Aside0.mk (HS0.out.alloc (.cells (madeCells #[.int .u8 0] 31) 5))
  have hcv : (convert 29 9 (.slice (some ⟨w1.heap.size, 0, none⟩) 31 31)).run Try.prog (w1.alloc (.cells (madeCells #[.int .u8 0] 31) 5)) = .ok (.string n31) (w1.alloc (.cells (madeCells #[.int .u8 0] 31) 5)) := by
    have := Kd.C_string (P := Try.prog) (c := 31) Try.underlying29 Try.underlying5 Try.underlying9 (bytes_new HS0.out (cs := madeCells #[.int .u8 0] 31) (fr := (0, 0)) (xs := List.replicate 31 0) (fun j hj => made_at 31 j hj) (by decide)).c
    rw [str31] at this
    exact this
  clear HS0 hN
  go_upto_region 5 with (fail)
  generalize w1.alloc (.cells (madeCells #[.int .u8 0] 31) 5) = wa at *
  clear hmk hcv
  have hi0 := Inv.new gd bd bs vch 16777216
  have hA := Lib.hid (appV HS1.out (name := nE) (A := none) (cp := 0) (b := []) (hi0.fitN (by decide) (by decide) (by decide)) (bytes_nil _ _) (v := 20) (by unfold appE; rw [if_pos bE]) (by decide))
  go_upto_region 6 with (go_at_call 13; refine hA.out.mono ?_; rintro e w2 ⟨rfl, hS⟩; have HS2 := Aside0.mk hS; clear hS)
  have hB := Lib.hid (appV HS2.out (name := n31) (A := none) (cp := 0) (b := []) (hi0.fitN (by decide) (by decide) (by decide)) (bytes_nil _ _) (v := 20) (by unfold appE; rw [if_pos b31]) (by decide))
  go_upto_region 7 with (go_at_call 13; refine hB.out.mono ?_; rintro e w3 ⟨rfl, hS⟩; have HS3 := Aside0.mk hS; clear hS)
  have hC := Lib.hid (appNew HS3.out (name := n30) (A := none) (cp := 0) (b := []) (hi0.fitN (by decide) (by decide) (by decide)) (bytes_nil _ _) (appE_0 b30 (by simp) (by simp [sumL]) (.inl (show (-1 : Int) < 0 by decide))) rfl)
  clear hA hB HS1 HS2
  unfold n31
  go_upto_region 8 with (go_at_call 13; refine hC.out.mono ?_; rintro e w4 ⟨rfl, g1, v1, vc1, -, hS⟩; have HS4 : Aside0 (St W w4 ⟨gd, bd, bs, vc1, -1, [(n30, g1)], [], [⟨0, n30, ⟨#[]⟩, some g1⟩], [⟨g1, v1, [], 0⟩]⟩) := ⟨hS⟩; clear hS)
  have hi1 : Inv ⟨gd, bd, bs, vc1, -1, [(n30, g1)], [], [⟨0, n30, ⟨#[]⟩, some g1⟩], [⟨g1, v1, [], 0⟩]⟩ 1 16777216 := hi0.add (name := n30) (b := []) (g := g1) (v1 := v1) (vch1 := vc1) (fun f hf => (by cases hf)) rfl b30 (Nat.zero_le _) (by decide)
  have HI1 := Aside0.mk hi1
  clear hC HS3 hi0 hi1
  obtain ⟨ne1, ne2, ne3, ne4⟩ := nNe
  have hfN : findR ⟨gd, bd, bs, vc1, -1, [(n30, g1)], [], [⟨0, n30, ⟨#[]⟩, some g1⟩], [⟨g1, v1, [], 0⟩]⟩ nN = (none, 25) := find_no bN (by simp [getM, ne1])
  have hfE : findR ⟨gd, bd, bs, vc1, -1, [(n30, g1)], [], [⟨0, n30, ⟨#[]⟩, some g1⟩], [⟨g1, v1, [], 0⟩]⟩ nE = (none, 20) := find_bad bE
  have hq1 := Lib.hid (stReadNo HS4.out nN (by rw [hfN]))
  rw [hfN] at hq1
  go_upto_region 9 with (go_at_call 14; refine hq1.out.mono ?_; rintro e w5 ⟨rfl, hS⟩; have HS5 := Aside0.mk hS; clear hS)
  have hq2 := Lib.hid (stSyncNo HS5.out nN (by rw [hfN]))
  rw [hfN] at hq2
  go_upto_region 10 with (go_at_call 16; refine hq2.out.mono ?_; rintro e w6 ⟨rfl, hS⟩; have HS6 := Aside0.mk hS; clear hS)
  have hq3 := Lib.hid (stRenameNo HS6.out nN nX (.inr (by rw [hfN])))
  rw [show renE ⟨gd, bd, bs, vc1, -1, [(n30, g1)], [], [⟨0, n30, ⟨#[]⟩, some g1⟩], [⟨g1, v1, [], 0⟩]⟩ nN nX = 25 from by unfold renE; rw [if_neg (by rw [bX]; decide), hfN]] at hq3
  go_upto_region 11 with (go_at_call 19; refine hq3.out.mono ?_; rintro e w7 ⟨rfl, hS⟩; have HS7 := Aside0.mk hS; clear hS)
  have hq4 := Lib.hid (stRemoveNo HS7.out nN (by rw [hfN]))
  rw [hfN] at hq4
  go_upto_region 12 with (go_at_call 21; refine hq4.out.mono ?_; rintro e w8 ⟨rfl, hS⟩; have HS8 := Aside0.mk hS; clear hS)
  have hq5 := Lib.hid (stReadNo HS8.out nE (by rw [hfE]))
  rw [hfE] at hq5
  go_upto_region 13 with (go_at_call 14; refine hq5.out.mono ?_; rintro e w9 ⟨rfl, hS⟩; have HS9 := Aside0.mk hS; clear hS)
  have hq6 := Lib.hid (stQuota HS9.out 3)
  clear hq1 hq2 hq3 hq4 hq5 HS4 HS5 HS6 HS7 HS8 hfN hfE
  go_upto_region 14 with (go_at_call 12; refine hq6.out.mono ?_; rintro e wb ⟨rfl, hS⟩; have HS10 : Aside0 (St W wb ⟨gd, bd, bs, vc1, 3, [(n30, g1)], [], [⟨0, n30, ⟨#[]⟩, some g1⟩], [⟨g1, v1, [], 0⟩]⟩) := ⟨hS⟩; clear hS)
  have HI2 : Aside0 (Inv ⟨gd, bd, bs, vc1, 3, [(n30, g1)], [], [⟨0, n30, ⟨#[]⟩, some g1⟩], [⟨g1, v1, [], 0⟩]⟩ 2 16777216) := ⟨HI1.out.quotaI 3 (by decide)⟩
  have hsum2 : sumL ⟨gd, bd, bs, vc1, 3, [(n30, g1)], [], [⟨0, n30, ⟨#[]⟩, some g1⟩], [⟨g1, v1, [], 0⟩]⟩ [(n30, g1)] = 0 := by simp [sumL, lenOf]
  clear hq6 HS9 HI1
  have HS11 := Aside0.mk (HS10.out.alloc (.cells #[.int .u8 102, .int .u8 111, .int .u8 117, .int .u8 114] 5 (4, 5)))
  have hq7 := Lib.hid (appV HS11.out (name := nQ) (cp := 4) (b := [102, 111, 117, 114]) (HI2.out.fitN (by decide) (by decide) (by decide)) (bytes4 HS10.out 102 111 117 114) (v := 13) (appE_13 bQ (by simp) (.inr ⟨(by decide : (0 : Int) ≤ 3), (by decide : (3 : Int) < 4)⟩)) (by decide))
  have hcv1 := Lib.run_convert_bytes_const wb 29 5 #[.int .u8 102, .int .u8 111, .int .u8 117, .int .u8 114] 4 4 Try.underlying29 Try.underlying5
  go_upto_region 15 with (go_at_call 13; refine hq7.out.mono ?_; rintro e wc ⟨rfl, hS⟩; have HS12 := Aside0.mk hS; clear hS)
  have HS13 := Aside0.mk (HS12.out.alloc (.cells #[.int .u8 116, .int .u8 114, .int .u8 101] 5 (3, 4)))
  have hq8 := Lib.hid (appNew HS13.out (name := nQ) (cp := 3) (b := [116, 114, 101]) (HI2.out.fitN (by decide) (by decide) (by decide)) (bytes3 HS12.out 116 114 101) (appE_0 bQ (by simp) (by show 3 + sumL _ [(n30, g1)] ≤ _; rw [hsum2]; decide) (.inr (by decide : (3 : Int) ≤ 3))) (by simp [getM, ne2]))
  have hcv2 := Lib.run_convert_bytes_const wc 29 5 #[.int .u8 116, .int .u8 114, .int .u8 101] 3 3 Try.underlying29 Try.underlying5
  clear hq7 HS10 HS11 hcv1
  go_upto_region 16 with (go_at_call 13; refine hq8.out.mono ?_; rintro e wd ⟨rfl, g2, v2, vc2, hgg, hS⟩; have HNE : Aside0 (g1 ≠ g2) := ⟨hgg _ (List.mem_singleton.2 rfl)⟩; have HS14 : Aside0 (St W wd ⟨gd, bd, bs, vc2, 0, [(n30, g1), (nQ, g2)], [], [⟨0, n30, ⟨#[]⟩, some g1⟩, ⟨0, nQ, ⟨#[]⟩, some g2⟩], [⟨g1, v1, [], 0⟩, ⟨g2, v2, [116, 114, 101], 0⟩]⟩) := ⟨by simpa [addF, newQ, putM, ne2] using hS⟩; clear hS hgg)
  have HI3 : Aside0 (Inv ⟨gd, bd, bs, vc2, 0, [(n30, g1), (nQ, g2)], [], [⟨0, n30, ⟨#[]⟩, some g1⟩, ⟨0, nQ, ⟨#[]⟩, some g2⟩], [⟨g1, v1, [], 0⟩, ⟨g2, v2, [116, 114, 101], 0⟩]⟩ 3 16777216) := ⟨by simpa [addF, newQ, putM, ne2] using HI2.out.add (name := nQ) (b := [116, 114, 101]) (g := g2) (v1 := v2) (vch1 := vc2) (fun f hf => by obtain rfl := List.mem_singleton.1 hf; exact HNE.out) (by simp [getM, ne2]) bQ (by decide) (by decide)⟩
  have hne := HNE.out
  clear hq8 HS12 HS13 hcv2 HI2 hsum2
  have HS15 := Aside0.mk (HS14.out.alloc (.cells #[.int .u8 120] 5 (1, 2)))
  have hq9 := Lib.hid (appV HS15.out (name := nQ) (cp := 1) (b := [120]) (HI3.out.fitN (by decide) (by decide) (by decide)) (bytes1 HS14.out 120) (v := 13) (appE_13 bQ (by simp) (.inr ⟨(by decide : (0 : Int) ≤ 0), (by decide : (0 : Int) < 1)⟩)) (by decide))
  have hcv3 := Lib.run_convert_bytes_const wd 29 5 #[.int .u8 120] 1 1 Try.underlying29 Try.underlying5
  go_upto_region 17 with (go_at_call 13; refine hq9.out.mono ?_; rintro e we ⟨rfl, hS⟩; have HS16 := Aside0.mk hS; clear hS)
  clear hq9 hcv3 HS14 HS15
  have hsum3 : sumL ⟨gd, bd, bs, vc2, 0, [(n30, g1), (nQ, g2)], [], [⟨0, n30, ⟨#[]⟩, some g1⟩, ⟨0, nQ, ⟨#[]⟩, some g2⟩], [⟨g1, v1, [], 0⟩, ⟨g2, v2, [116, 114, 101], 0⟩]⟩ [(n30, g1), (nQ, g2)] = 3 := by simp [sumL, lenOf, hne]
  have hqa := Lib.hid (appOld HS16.out (name := nQ) (A := none) (cp := 0) (b := []) (HI3.out.fitN (by decide) (by decide) (by decide)) (bytes_nil _ _) (appE_0 bQ (by simp) (by show 0 + sumL _ [(n30, g1), (nQ, g2)] ≤ _; rw [hsum3]; decide) (.inr (by decide : (0 : Int) ≤ 0))) (f := ⟨g2, v2, [116, 114, 101], 0⟩) (by simp) (by simp [getM, ne2]))
  go_upto_region 18 with (go_at_call 13; refine hqa.out.mono ?_; rintro e wf ⟨rfl, v3, hS⟩; have HS17 : Aside0 (St W wf ⟨gd, bd, bs, vc2, 0, [(n30, g1), (nQ, g2)], [], [⟨0, n30, ⟨#[]⟩, some g1⟩, ⟨0, nQ, ⟨#[]⟩, some g2⟩], [⟨g1, v1, [], 0⟩, ⟨g2, v3, [116, 114, 101], 0⟩]⟩) := ⟨by simpa [growF, updF, newQ, hne] using hS⟩; clear hS)
  have HI4 : Aside0 (Inv ⟨gd, bd, bs, vc2, 0, [(n30, g1), (nQ, g2)], [], [⟨0, n30, ⟨#[]⟩, some g1⟩, ⟨0, nQ, ⟨#[]⟩, some g2⟩], [⟨g1, v1, [], 0⟩, ⟨g2, v3, [116, 114, 101], 0⟩]⟩ 4 16777216) := ⟨by simpa [growF, updF, newQ, hne] using HI3.out.grow (f := ⟨g2, v2, [116, 114, 101], 0⟩) (by simp) (b := []) (v1 := v3) (Nat.zero_le _) (by decide)⟩
  clear hqa HS16 hsum3 HI3
  have hqb := Lib.hid (stQuota HS17.out (-9))
  go_upto_region 19 with (go_at_call 12; refine hqb.out.mono ?_; rintro e wg ⟨rfl, hS⟩; have HS18 : Aside0 (St W wg ⟨gd, bd, bs, vc2, -9, [(n30, g1), (nQ, g2)], [], [⟨0, n30, ⟨#[]⟩, some g1⟩, ⟨0, nQ, ⟨#[]⟩, some g2⟩], [⟨g1, v1, [], 0⟩, ⟨g2, v3, [116, 114, 101], 0⟩]⟩) := ⟨hS⟩; clear hS)
  have HI5 : Aside0 (Inv ⟨gd, bd, bs, vc2, -9, [(n30, g1), (nQ, g2)], [], [⟨0, n30, ⟨#[]⟩, some g1⟩, ⟨0, nQ, ⟨#[]⟩, some g2⟩], [⟨g1, v1, [], 0⟩, ⟨g2, v3, [116, 114, 101], 0⟩]⟩ 5 16777216) := ⟨HI4.out.quotaI (-9) (by decide)⟩
  have hsum5 : sumL ⟨gd, bd, bs, vc2, -9, [(n30, g1), (nQ, g2)], [], [⟨0, n30, ⟨#[]⟩, some g1⟩, ⟨0, nQ, ⟨#[]⟩, some g2⟩], [⟨g1, v1, [], 0⟩, ⟨g2, v3, [116, 114, 101], 0⟩]⟩ [(n30, g1), (nQ, g2)] = 3 := by simp [sumL, lenOf, hne]
  clear hqb HS17 HI4
  have hmk : ∀ W : World, (Instr.makeSlice 29 (.int .i64 16777214) (.int .i64 16777214)).run Try.prog W = .ok (.slice (some ⟨W.heap.size, 0, none⟩) 16777214 16777214) (W.alloc (.cells (madeCells #[.int .u8 0] 16777214) 5)) := print_make (P := Try.prog) 29 5 .u8 1 Try.underlying29 info5 (by decide) 16777214 (by omega)
  obtain ⟨xs, hxl, hxb⟩ := bytes_made HS18.out 16777214 (by decide)
  have HS19 := Aside0.mk (HS18.out.alloc (.cells (madeCells #[.int .u8 0] 16777214) 5))
  have hqc0 := appV HS19.out (name := nQ) (cp := 16777214) (b := xs) (HI5.out.fitN (by decide) (by decide) (by omega)) hxb (v := 13) (appE_13 bQ (by simp) (.inl (by show _ < xs.length + sumL _ [(n30, g1), (nQ, g2)]; rw [hsum5, hxl]; decide))) (by decide)
  rw [hxl] at hqc0
  have hqc := Lib.hid hqc0
  clear hqc0
  clear hxl hxb HS18
  generalize madeCells #[.int .u8 0] 16777214 = big at *
  go_upto_region 20 with (go_at_call 13; refine hqc.out.mono ?_; rintro e wh ⟨rfl, hS⟩; have HS20 := Aside0.mk hS; clear hS)
  clear hqc HS19 hmk
  have hmk : ∀ W : World, (Instr.makeSlice 29 (.int .i64 16777213) (.int .i64 16777213)).run Try.prog W = .ok (.slice (some ⟨W.heap.size, 0, none⟩) 16777213 16777213) (W.alloc (.cells (madeCells #[.int .u8 0] 16777213) 5)) := print_make (P := Try.prog) 29 5 .u8 1 Try.underlying29 info5 (by decide) 16777213 (by omega)
  obtain ⟨ys, hyl, hyb⟩ := bytes_made HS20.out 16777213 (by decide)
  have HS21 := Aside0.mk (HS20.out.alloc (.cells (madeCells #[.int .u8 0] 16777213) 5))
  have hqd0 := appOld HS21.out (name := nQ) (cp := 16777213) (b := ys) (HI5.out.fitN (by decide) (by decide) (by omega)) hyb (appE_0 bQ (by simp) (by show ys.length + sumL _ [(n30, g1), (nQ, g2)] ≤ _; rw [hsum5, hyl]; decide) (.inl (by decide : (-9 : Int) < 0))) (f := ⟨g2, v3, [116, 114, 101], 0⟩) (by simp) (by simp [getM, ne2])
  have hgrow := fun v4 => HI5.out.grow (f := ⟨g2, v3, [116, 114, 101], 0⟩) (by simp) (b := ys) (v1 := v4) (by rw [hyl]; decide) (by decide)
  have HGR := Lib.hid hgrow
  have hbl : ([116, 114, 101] ++ ys : List Int).length = 16777216 := by rw [List.length_append, hyl]; rfl
  rw [hyl] at hqd0
  have hqd := Lib.hid hqd0
  clear hqd0
  obtain ⟨bq, hbq⟩ : ∃ bq : List Int, bq = [116, 114, 101] ++ ys := ⟨_, rfl⟩
  rw [← hbq] at hbl
  have HBQ := Aside0.mk hbq
  have HBL := Aside0.mk hbl
  clear hyb HS20 big hgrow hbq hbl
  generalize madeCells #[.int .u8 0] 16777213 = big at *
  go_upto_region 21 with (go_at_call 13; refine hqd.out.mono ?_; rintro e wi ⟨rfl, v4, hS⟩; have HS22 : Aside0 (St W wi ⟨gd, bd, bs, vc2, -9, [(n30, g1), (nQ, g2)], [], [⟨0, n30, ⟨#[]⟩, some g1⟩, ⟨0, nQ, ⟨#[]⟩, some g2⟩], [⟨g1, v1, [], 0⟩, ⟨g2, v4, bq, 0⟩]⟩) := ⟨by rw [HBQ.out]; simpa [growF, updF, newQ, hne] using hS⟩; clear hS)
  have HI6 : Aside0 (Inv ⟨gd, bd, bs, vc2, -9, [(n30, g1), (nQ, g2)], [], [⟨0, n30, ⟨#[]⟩, some g1⟩, ⟨0, nQ, ⟨#[]⟩, some g2⟩], [⟨g1, v1, [], 0⟩, ⟨g2, v4, bq, 0⟩]⟩ 6 16777216) := ⟨by rw [HBQ.out]; simpa [growF, updF, newQ, hne] using HGR.out v4⟩
  have hsum6 : sumL ⟨gd, bd, bs, vc2, -9, [(n30, g1), (nQ, g2)], [], [⟨0, n30, ⟨#[]⟩, some g1⟩, ⟨0, nQ, ⟨#[]⟩, some g2⟩], [⟨g1, v1, [], 0⟩, ⟨g2, v4, bq, 0⟩]⟩ [(n30, g1), (nQ, g2)] = 16777216 := by simp [sumL, lenOf, hne, HBL.out]
  clear hqd HS21 hmk hyl HI5 hsum5 HGR HBQ
  have HS23 := Aside0.mk (HS22.out.alloc (.cells #[.int .u8 120] 5 (1, 2)))
  have hqe := Lib.hid (appV HS23.out (name := nQ) (cp := 1) (b := [120]) (HI6.out.fitN (by decide) (by decide) (by decide)) (bytes1 HS22.out 120) (v := 13) (appE_13 bQ (by simp) (.inl (by show _ < 1 + sumL _ [(n30, g1), (nQ, g2)]; rw [hsum6]; decide))) (by decide))
  have hcv4 := Lib.run_convert_bytes_const wi 29 5 #[.int .u8 120] 1 1 Try.underlying29 Try.underlying5
  go_upto_region 22 with (go_at_call 13; refine hqe.out.mono ?_; rintro e wj ⟨rfl, hS⟩; have HS24 := Aside0.mk hS; clear hS)
  clear hqe HS22 HS23 hcv4 hsum6
  have hqf := Lib.hid (stRemove HS24.out nQ (g := g2) (find_of bQ (by simp [getM, ne2])) (by show 2 ≤ _; decide))
  go_upto_region 23 with (go_at_call 21; refine hqf.out.mono ?_; rintro e wk ⟨rfl, vc3, hS⟩; have HS25 : Aside0 (St W wk ⟨gd, bd, bs, vc3, -9, [(n30, g1)], [], [⟨0, n30, ⟨#[]⟩, some g1⟩, ⟨0, nQ, ⟨#[]⟩, some g2⟩, ⟨2, nQ, ByteArray.empty, none⟩], [⟨g1, v1, [], 0⟩, ⟨g2, v4, bq, 0⟩]⟩) := ⟨by simpa [remD, delM, ne2] using hS⟩; clear hS)
  have HI7 : Aside0 (Inv ⟨gd, bd, bs, vc3, -9, [(n30, g1)], [], [⟨0, n30, ⟨#[]⟩, some g1⟩, ⟨0, nQ, ⟨#[]⟩, some g2⟩, ⟨2, nQ, ByteArray.empty, none⟩], [⟨g1, v1, [], 0⟩, ⟨g2, v4, bq, 0⟩]⟩ 7 16777216) := ⟨by simpa [remD, delM, ne2] using HI6.out.rem (s := nQ) (v1 := vc3)⟩
  have hsum7 : sumL ⟨gd, bd, bs, vc3, -9, [(n30, g1)], [], [⟨0, n30, ⟨#[]⟩, some g1⟩, ⟨0, nQ, ⟨#[]⟩, some g2⟩, ⟨2, nQ, ByteArray.empty, none⟩], [⟨g1, v1, [], 0⟩, ⟨g2, v4, bq, 0⟩]⟩ [(n30, g1)] = 0 := by simp [sumL, lenOf]
  clear hqf HS24 HI6
  have HS26 := Aside0.mk (HS25.out.alloc (.cells #[.int .u8 120] 5 (1, 2)))
  have hqg := Lib.hid (appNew HS26.out (name := nR) (cp := 1) (b := [120]) (HI7.out.fitN (by decide) (by decide) (by decide)) (bytes1 HS25.out 120) (appE_0 bR (by simp) (by show 1 + sumL _ [(n30, g1)] ≤ _; rw [hsum7]; decide) (.inl (by decide : (-9 : Int) < 0))) (by simp [getM, ne3]))
  have hcv5 := Lib.run_convert_bytes_const wk 29 5 #[.int .u8 120] 1 1 Try.underlying29 Try.underlying5
  go_upto_region 24 with (go_at_call 13; refine hqg.out.mono ?_; rintro e wl ⟨rfl, g3, v5, vc4, hgg, hS⟩; have HN3 : Aside0 (g1 ≠ g3 ∧ g2 ≠ g3) := ⟨⟨hgg _ (List.mem_cons_self ..), hgg _ (List.mem_cons_of_mem _ (List.mem_singleton.2 rfl))⟩⟩; have HS27 : Aside0 (St W wl ⟨gd, bd, bs, vc4, -9, [(n30, g1), (nR, g3)], [], [⟨0, n30, ⟨#[]⟩, some g1⟩, ⟨0, nQ, ⟨#[]⟩, some g2⟩, ⟨2, nQ, ByteArray.empty, none⟩, ⟨0, nR, ⟨#[]⟩, some g3⟩], [⟨g1, v1, [], 0⟩, ⟨g2, v4, bq, 0⟩, ⟨g3, v5, [120], 0⟩]⟩) := ⟨by simpa [addF, newQ, putM, ne3] using hS⟩; clear hS hgg)
  have HI8 : Aside0 (Inv ⟨gd, bd, bs, vc4, -9, [(n30, g1), (nR, g3)], [], [⟨0, n30, ⟨#[]⟩, some g1⟩, ⟨0, nQ, ⟨#[]⟩, some g2⟩, ⟨2, nQ, ByteArray.empty, none⟩, ⟨0, nR, ⟨#[]⟩, some g3⟩], [⟨g1, v1, [], 0⟩, ⟨g2, v4, bq, 0⟩, ⟨g3, v5, [120], 0⟩]⟩ 8 16777216) := ⟨by simpa [addF, newQ, putM, ne3] using HI7.out.add (name := nR) (b := [120]) (g := g3) (v1 := v5) (vch1 := vc4) (fun f hf => by rcases List.mem_cons.1 hf with rfl | hf; exact HN3.out.1; obtain rfl := List.mem_singleton.1 hf; exact HN3.out.2) (by simp [getM, ne3]) bR (by decide) (by decide)⟩
  clear hqg HS25 HS26 hcv5 HI7 hsum7
  have hqh := Lib.hid (stRename HS27.out nR nR (g := g3) bR (find_of bR (by simp [getM, ne3])) (by show 4 ≤ _; decide))
  go_upto_region 25 with (go_at_call 19; refine hqh.out.mono ?_; rintro e wm ⟨rfl, vc5, hS⟩; have HS28 : Aside0 (St W wm ⟨gd, bd, bs, vc5, -9, [(n30, g1), (nR, g3)], [], [⟨0, n30, ⟨#[]⟩, some g1⟩, ⟨0, nQ, ⟨#[]⟩, some g2⟩, ⟨2, nQ, ByteArray.empty, none⟩, ⟨0, nR, ⟨#[]⟩, some g3⟩, ⟨1, nR, nR, none⟩], [⟨g1, v1, [], 0⟩, ⟨g2, v4, bq, 0⟩, ⟨g3, v5, [120], 0⟩]⟩) := ⟨by simpa [renD, delM, putM, ne3] using hS⟩; clear hS)
  have HI9 : Aside0 (Inv ⟨gd, bd, bs, vc5, -9, [(n30, g1), (nR, g3)], [], [⟨0, n30, ⟨#[]⟩, some g1⟩, ⟨0, nQ, ⟨#[]⟩, some g2⟩, ⟨2, nQ, ByteArray.empty, none⟩, ⟨0, nR, ⟨#[]⟩, some g3⟩, ⟨1, nR, nR, none⟩], [⟨g1, v1, [], 0⟩, ⟨g2, v4, bq, 0⟩, ⟨g3, v5, [120], 0⟩]⟩ 9 16777216) := ⟨by simpa [renD, delM, putM, ne3] using HI8.out.ren (s := nR) (t := nR) (g := g3) (v1 := vc5) (by simp [getM, ne3]) bR⟩
  clear hqh HS27 HI8
  have hqi := Lib.hid (stRenameNo HS28.out nR nE (.inl bE))
  rw [show renE ⟨gd, bd, bs, vc5, -9, [(n30, g1), (nR, g3)], [], [⟨0, n30, ⟨#[]⟩, some g1⟩, ⟨0, nQ, ⟨#[]⟩, some g2⟩, ⟨2, nQ, ByteArray.empty, none⟩, ⟨0, nR, ⟨#[]⟩, some g3⟩, ⟨1, nR, nR, none⟩], [⟨g1, v1, [], 0⟩, ⟨g2, v4, bq, 0⟩, ⟨g3, v5, [120], 0⟩]⟩ nR nE = 20 from by unfold renE; rw [if_pos bE]] at hqi
  go_upto_region 26 with (go_at_call 19; refine hqi.out.mono ?_; rintro e wn ⟨rfl, hS⟩; have HS29 := Aside0.mk hS; clear hS)
  clear hqi HS28
  have hqj := Lib.hid (stTurn2 HS29.out nR 0 1 (f := ⟨g3, v5, [120], 0⟩) (by simp) (by simp [getM, ne3]) (by simp))
  have hb1 : bits .xor .u8 (rd [120] ((0 : Nat) : Int)) 1 = 121 := by decide +kernel
  have hn3 := HN3.out
  have hs0 : setF ⟨gd, bd, bs, vc5, -9, [(n30, g1), (nR, g3)], [], [⟨0, n30, ⟨#[]⟩, some g1⟩, ⟨0, nQ, ⟨#[]⟩, some g2⟩, ⟨2, nQ, ByteArray.empty, none⟩, ⟨0, nR, ⟨#[]⟩, some g3⟩, ⟨1, nR, nR, none⟩], [⟨g1, v1, [], 0⟩, ⟨g2, v4, bq, 0⟩, ⟨g3, v5, [120], 0⟩]⟩ ⟨g3, v5, [120], 0⟩ 0 121 = ⟨gd, bd, bs, vc5, -9, [(n30, g1), (nR, g3)], [], [⟨0, n30, ⟨#[]⟩, some g1⟩, ⟨0, nQ, ⟨#[]⟩, some g2⟩, ⟨2, nQ, ByteArray.empty, none⟩, ⟨0, nR, ⟨#[]⟩, some g3⟩, ⟨1, nR, nR, none⟩], [⟨g1, v1, [], 0⟩, ⟨g2, v4, bq, 0⟩, ⟨g3, v5, [121], 0⟩]⟩ := by simp [setF, updF, hn3.1, hn3.2]
  simp only [hb1, hs0] at hqj
  go_upto_region 27 with (go_at_call 23; refine hqj.out.mono ?_; rintro e wo ⟨rfl, hS⟩; have HS30 := Aside0.mk hS; clear hS)
  have HI10 : Aside0 (Inv ⟨gd, bd, bs, vc5, -9, [(n30, g1), (nR, g3)], [], [⟨0, n30, ⟨#[]⟩, some g1⟩, ⟨0, nQ, ⟨#[]⟩, some g2⟩, ⟨2, nQ, ByteArray.empty, none⟩, ⟨0, nR, ⟨#[]⟩, some g3⟩, ⟨1, nR, nR, none⟩], [⟨g1, v1, [], 0⟩, ⟨g2, v4, bq, 0⟩, ⟨g3, v5, [121], 0⟩]⟩ 10 16777216) := ⟨hs0 ▸ HI9.out.setF_ (f := ⟨g3, v5, [120], 0⟩) (by simp) 0 121⟩
  clear hqj HS29 hs0 hb1 HI9
  have hqk := Lib.hid (stTurn1 HS30.out nR 1 1 (f := ⟨g3, v5, [121], 0⟩) (by simp) (by simp [getM, ne3]) (by simp))
  go_upto_region 28 with (go_at_call 23; refine hqk.out.mono ?_; rintro e wp ⟨rfl, hS⟩; have HS31 := Aside0.mk hS; clear hS)
  clear hqk HS30
  have hql := Lib.hid (stRead HS31.out nR (f := ⟨g3, v5, [121], 0⟩) (by simp) (find_of bR (by simp [getM, ne3])) (by simp))
  go_upto_region 29 with (go_at_call 14; refine hql.out.mono ?_; rintro e wq ⟨v25, rfl, hR, hS⟩; have HRw : Aside0 (Row (Kd.int .u8) 5 wq ⟨gd, bd, bs, vc5, -9, [(n30, g1), (nR, g3)], [], [⟨0, n30, ⟨#[]⟩, some g1⟩, ⟨0, nQ, ⟨#[]⟩, some g2⟩, ⟨2, nQ, ByteArray.empty, none⟩, ⟨0, nR, ⟨#[]⟩, some g3⟩, ⟨1, nR, nR, none⟩], [⟨g1, v1, [], 0⟩, ⟨g2, v4, bq, 0⟩, ⟨g3, v5, [121], 0⟩]⟩ v25 [121]) := ⟨Row.new (d' := ⟨gd, bd, bs, vc5, -9, [(n30, g1), (nR, g3)], [], [⟨0, n30, ⟨#[]⟩, some g1⟩, ⟨0, nQ, ⟨#[]⟩, some g2⟩, ⟨2, nQ, ByteArray.empty, none⟩, ⟨0, nR, ⟨#[]⟩, some g3⟩, ⟨1, nR, nR, none⟩], [⟨g1, v1, [], 0⟩, ⟨g2, v4, bq, 0⟩, ⟨g3, v5, [121], 0⟩]⟩) HS31.out.at_ hR⟩; have HS32 := Aside0.mk hS; clear hS hR)
  clear hql HS31
  have hqm := Lib.hid (crashN HS32.out.at_ HI10.out (by decide) (by decide) (-1) 0 rfl (by decide) (dirP := []) rfl)
  go_upto_region 30 with (go_at_call 18; refine hqm.out.mono ?_; rintro e wr ⟨rfl, nb1, nb2, hD, hG, hI⟩; have HRx := Aside0.mk (HRw.out.goes rfl hG); have HS33 := Aside0.mk (HS32.out.goes hD hG); have HI11 := Aside0.mk hI; clear hD hG hI)
  clear hqm HS32 HRw HI10
  have hqn := Lib.hid (listEmpty HS33.out.at_ HI11.out (by decide) rfl)
  obtain ⟨Av, cv, ev⟩ := Kd.R_slice HRx.out.r
  subst ev
  have hcv6 : (convert 29 9 (.slice Av 1 cv)).run Try.prog wr = .ok (.string ⟨#[121]⟩) wr := by
    have := Kd.C_string (P := Try.prog) (c := cv) Try.underlying29 Try.underlying5 Try.underlying9 (Kd.R_reads' HRx.out.r).2.2
    rw [str121] at this
    exact this
  have hk := knownC
  go_wp2_with (first
    | (go_at_call 20; refine hqn.out.mono ?_; rintro e ws ⟨rfl, hD, hG⟩; have HS34 := Aside0.mk (HS33.out.goes hD hG); clear hD hG)
    | (go_at_call 15; refine (hk _).mono ?_; rintro e wt ⟨rfl, hb⟩; have HS35 := Aside0.mk (HS34.out.more hb); clear hb))
  go_ret
  exact ⟨rfl, HS35.out.below⟩
end Go.Proofs.Ytoninmgglcepmaa.Dk
