/- DiskSwaps: the walk. -/
import Derived.Test.YtoninmgglcepmaaD16
namespace Go.Proofs.Ytoninmgglcepmaa.Dk
open Go.ChangeMaps hiding rd
open RegD Go.RowKit Go.Proofs.YtoninmgglcepmaaW.PrintWords Go.Proofs.YtoninmgglcepmaaW.PrintLast Go.Proofs.YtoninmgglcepmaaW.PrintMore Mp
attribute [local go_sem] max2_int min2_int max_two min_two max_three min_three max_four min_four
set_option linter.unusedVariables false
set_option linter.unusedSimpArgs false
theorem crash_full {q : Nat} {f : FS} (h : f.safe = (f.bs.length : Int)) : crB q f = f.bs := by
  have hk : kOf q f = 0 := by
    unfold kOf
    rw [show f.bs.length - f.safe.toNat + 1 = 1 from by omega]
    exact Nat.mod_one _
  have hn : nOf q f = f.bs.length := by unfold nOf; omega
  unfold crB
  rw [hk, if_neg (by omega), hn, List.take_length]
/-- Behind a crash a file that was safe is read as it was. -/
theorem swapCrash {w0 w : World} {d : DSt} {n k : Nat} (h : St w0 w d) (hi : Inv d n k) (hn : n ≤ 1000) (hkk : k ≤ 100000) (pick : Int) (P : Nat) (hp : (P : Int) = if pick < 0 then -(pick + 1) else pick) (hpb : -9223372036854775808 ≤ pick ∧ pick ≤ 9223372036854775807)
    {dirP : List (ByteArray × Nat)} (hdp : runM d.safe (d.chg.take (P % (d.chg.length + 1))) = some dirP) {s : ByteArray} {f : FS} (hf : f ∈ d.fs) (hg : getM dirP s = some f.g) (hs : f.safe = (f.bs.length : Int)) (hb : badName s = false) :
    Calls Try.prog 18 #[.pointer (some ⟨d.gd, 0, none⟩), .int .i64 pick] w fun e w' => e = .returned (.tuple #[]) ∧ ∃ d' f', St w0 w' d' ∧ d'.gd = d.gd ∧ d'.dir = dirP ∧ f' ∈ d'.fs ∧ f'.bs = f.bs ∧ (findR d' s).1 = some f'.g ∧ Inv d' (n + 1) k := by
  obtain ⟨l, h1, h2⟩ := hi.run (P % (d.chg.length + 1)) (Nat.le_of_lt_succ (Nat.mod_lt _ (Nat.succ_pos _)))
  rw [hdp] at h1
  injection h1 with h1
  subst h1
  refine (stCrash h pick P hp hpb (by have := hi.chg; omega) hi.now hdp h2.fs h2.vals (fun f hf => ?_)).mono fun e w' ⟨he, nb1, nb2, hS⟩ => ⟨he, _, crF (P / (d.chg.length + 1)) f, hS, rfl, rfl, ?_, crash_full hs, ?_, hi.crash hdp _ _ _⟩
  · obtain ⟨a, b, c⟩ := hi.sf f hf
    have : n * k ≤ 1000 * 100000 := Nat.mul_le_mul hn hkk
    exact ⟨a, b, by omega⟩
  · refine List.mem_map.2 ⟨f, hf, if_pos ?_⟩
    exact List.mem_map.2 ⟨_, getM_mem hg, rfl⟩
  · exact find_of hb hg
set_option maxHeartbeats 8000000 in
set_option maxRecDepth 100000 in
theorem swapsW (W : World) (A : Option Addr) (c : Nat) (a : List Int) (hr : Kd.C (Kd.int .u8) W A a.length a) (hc : a.length ≤ c) (hm : a.length ≤ maxLen) (hw : ∀ x ∈ a, (Lit.int .u8 x).wf = true) (hy1 : a.length ≤ 140737488351232)
    (A2 : Option Addr) (c2 : Nat) (b : List Int) (hr2 : Kd.C (Kd.int .u8) W A2 b.length b) (hc2 : b.length ≤ c2) (hm2 : b.length ≤ maxLen) (hw2 : ∀ x ∈ b, (Lit.int .u8 x).wf = true) (hy2 : b.length ≤ 140737488351232) (pick : Int) (wp : (Lit.int .i64 pick).wf = true) (safe : Bool) :
    Calls Try.prog 5 #[.slice A a.length c, .slice A2 b.length c2, .int .i64 pick, .bool safe] W fun e w' => e = .returned (.bool true) ∧ Below W.heap.size W w' := by
  obtain ⟨x, hx⟩ : ∃ x, x = a.take 200 := ⟨_, rfl⟩
  obtain ⟨y, hy⟩ : ∃ y, y = b.take 200 := ⟨_, rfl⟩
  have hxl : x.length ≤ 200 := by rw [hx, List.length_take]; omega
  have hyl : y.length ≤ 200 := by rw [hy, List.length_take]; omega
  have HX := Aside0.mk (came_cut hr hx)
  have HY := Aside0.mk (came_cut hr2 hy)
  have HXL := Aside0.mk hxl
  have HYL := Aside0.mk hyl
  have hN := Lib.hid (stNew W)
  obtain ⟨P, hP⟩ : ∃ P : Nat, (P : Int) = if pick < 0 then -(pick + 1) else pick := ⟨(if pick < 0 then -(pick + 1) else pick).toNat, by split <;> omega⟩
  have HP := Aside0.mk hP
  have HPB := Aside0.mk (range64 wp)
  clear hP wp
  have hca := cut_cases (A := A) hx hc
  have hcb := cut_cases (A := A2) hy hc2
  clear hr hr2 hx hy hxl hyl hc hc2 hm hm2 hw hw2 hy1 hy2
  rcases hca with ⟨b1, hcutA⟩ | ⟨b1, rfl⟩ <;> rcases hcb with ⟨b2, hcutB⟩ | ⟨b2, rfl⟩
  all_goals
    go_enter Try.func5, Try.ntmps5
    go_upto_region 8 with (go_at_call 11; refine hN.out.mono ?_; rintro e w1 ⟨gd, bd, bs, vch, rfl, hS⟩; have HS := Aside0.mk hS; clear hS)
    have hi0 := Inv.new gd bd bs vch 200
    have h1 := Lib.hid (appNew HS.out (name := nF) (cp := c) (hi0.fit (by decide) (by decide) (by have := HXL.out; omega)) (HS.out.came HX.out) (by have := HXL.out; unfold appE; rw [if_neg (by rw [badF]; decide), if_neg (by simp), if_neg (by simp [sumL]; omega)]) rfl)
    go_upto_region 9 with (go_at_call 13; refine h1.out.mono ?_; rintro e w2 ⟨rfl, g, v1, vc1, -, hS⟩; have HS1 := Aside0.mk hS; clear hS)
    have HS1' : Aside0 (St W w2 ⟨gd, bd, bs, vc1, -1, [(nF, g)], [], [⟨0, nF, ⟨#[]⟩, some g⟩], [⟨g, v1, x, 0⟩]⟩) := HS1
    have hi1 := hi0.add (name := nF) (b := x) (g := g) (v1 := v1) (vch1 := vc1) (fun f hf => (by cases hf)) rfl badF HXL.out (by decide)
    replace hi1 : Inv ⟨gd, bd, bs, vc1, -1, [(nF, g)], [], [⟨0, nF, ⟨#[]⟩, some g⟩], [⟨g, v1, x, 0⟩]⟩ 1 200 := hi1
    have HI1 := Aside0.mk hi1
    clear hi1 hi0
    have h2 := Lib.hid (stSync HS1'.out nF (f := ⟨g, v1, x, 0⟩) (List.mem_singleton.2 rfl) (find_of badF (by simp [getM])))
    go_upto_region 10 with (go_at_call 16; refine h2.out.mono ?_; rintro e w3 ⟨rfl, hS⟩; have HS2 : Aside0 (St W w3 ⟨gd, bd, bs, vc1, -1, [(nF, g)], [], [⟨0, nF, ⟨#[]⟩, some g⟩], [⟨g, v1, x, (x.length : Int)⟩]⟩) := ⟨by simpa [updF] using hS⟩; clear hS)
    have HI2 : Aside0 (Inv ⟨gd, bd, bs, vc1, -1, [(nF, g)], [], [⟨0, nF, ⟨#[]⟩, some g⟩], [⟨g, v1, x, (x.length : Int)⟩]⟩ 2 200) := ⟨by simpa [updF] using HI1.out.sync (f := ⟨g, v1, x, 0⟩) (List.mem_singleton.2 rfl)⟩
    have h3 := Lib.hid (stSyncDir HS2.out)
    go_upto_region 11 with (go_at_call 17; refine h3.out.mono ?_; rintro e w4 ⟨rfl, nb, hS⟩; have HS3 : Aside0 (St W w4 ⟨gd, bd, nb, .slice none 0 0, -1, [(nF, g)], [(nF, g)], [], [⟨g, v1, x, (x.length : Int)⟩]⟩) := ⟨hS⟩; clear hS)
    have HI3 : Aside0 (Inv ⟨gd, bd, nb, .slice none 0 0, -1, [(nF, g)], [(nF, g)], [], [⟨g, v1, x, (x.length : Int)⟩]⟩ 3 200) := ⟨HI2.out.syncDir nb⟩
    have h4 := Lib.hid (appNew HS3.out (name := nG) (cp := c2) (HI3.out.fit (by decide) (by decide) (by have := HYL.out; omega)) (HS3.out.came HY.out) (by have := HYL.out; have := HXL.out; have := HI3.out.sum; unfold appE; rw [if_neg (by rw [badG]; decide), if_neg (by simp), if_neg (by simp only [] at *; omega)]) (by simp [getM, nFG]))
    go_upto_region 12 with (go_at_call 13; refine h4.out.mono ?_; rintro e w5 ⟨rfl, g2, v3, vc2, hgg, hS⟩; have HG2 : Aside0 (g ≠ g2) := ⟨by have := hgg _ (List.mem_singleton.2 rfl); exact this⟩; have HS4 : Aside0 (St W w5 ⟨gd, bd, nb, vc2, -1, [(nF, g), (nG, g2)], [(nF, g)], [⟨0, nG, ⟨#[]⟩, some g2⟩], [⟨g, v1, x, (x.length : Int)⟩, ⟨g2, v3, y, 0⟩]⟩) := ⟨by simpa [addF, newQ, putM, nFG] using hS⟩; clear hS hgg)
    have HI4 : Aside0 (Inv ⟨gd, bd, nb, vc2, -1, [(nF, g), (nG, g2)], [(nF, g)], [⟨0, nG, ⟨#[]⟩, some g2⟩], [⟨g, v1, x, (x.length : Int)⟩, ⟨g2, v3, y, 0⟩]⟩ 4 200) := ⟨by simpa [addF, newQ, putM, nFG] using HI3.out.add (name := nG) (b := y) (g := g2) (v1 := v3) (vch1 := vc2) (fun f hf => by obtain rfl := List.mem_singleton.1 hf; exact HG2.out) (by simp [getM, nFG]) badG HYL.out (by decide)⟩
    have h5 := Lib.hid (stSync HS4.out nG (f := ⟨g2, v3, y, 0⟩) (by simp) (find_of badG (by simp [getM, nFG])))
    have hu : updF [⟨g, v1, x, (x.length : Int)⟩, ⟨g2, v3, y, 0⟩] g2 (fun z => { z with v := v3, bs := y, safe := (y.length : Int) }) = [⟨g, v1, x, (x.length : Int)⟩, ⟨g2, v3, y, (y.length : Int)⟩] := by simp [updF, HG2.out]
    go_upto_region 13 with (go_at_call 16; refine h5.out.mono ?_; rintro e w6 ⟨rfl, hS⟩; have HS5 : Aside0 (St W w6 ⟨gd, bd, nb, vc2, -1, [(nF, g), (nG, g2)], [(nF, g)], [⟨0, nG, ⟨#[]⟩, some g2⟩], [⟨g, v1, x, (x.length : Int)⟩, ⟨g2, v3, y, (y.length : Int)⟩]⟩) := ⟨by rw [← hu]; exact hS⟩; clear hS)
    have HI5 : Aside0 (Inv ⟨gd, bd, nb, vc2, -1, [(nF, g), (nG, g2)], [(nF, g)], [⟨0, nG, ⟨#[]⟩, some g2⟩], [⟨g, v1, x, (x.length : Int)⟩, ⟨g2, v3, y, (y.length : Int)⟩]⟩ 5 200) := ⟨by rw [← hu]; exact HI4.out.sync (f := ⟨g2, v3, y, 0⟩) (by simp)⟩
    have h6 := Lib.hid (stRename HS5.out nG nF (g := g2) badF (find_of badG (by simp [getM, nFG])) (show 1 ≤ 1000000000 by decide))
    go_upto_region 14 with (go_at_call 19; refine h6.out.mono ?_; rintro e w7 ⟨rfl, vc3, hS⟩; have HS6 : Aside0 (St W w7 ⟨gd, bd, nb, vc3, -1, [(nF, g2)], [(nF, g)], [⟨0, nG, ⟨#[]⟩, some g2⟩, ⟨1, nG, nF, none⟩], [⟨g, v1, x, (x.length : Int)⟩, ⟨g2, v3, y, (y.length : Int)⟩]⟩) := ⟨by simpa [renD, putM, delM, nFG] using hS⟩; clear hS)
    have HI6 : Aside0 (Inv ⟨gd, bd, nb, vc3, -1, [(nF, g2)], [(nF, g)], [⟨0, nG, ⟨#[]⟩, some g2⟩, ⟨1, nG, nF, none⟩], [⟨g, v1, x, (x.length : Int)⟩, ⟨g2, v3, y, (y.length : Int)⟩]⟩ 6 200) := ⟨by simpa [renD, putM, delM, nFG] using HI5.out.ren (s := nG) (t := nF) (g := g2) (v1 := vc3) (by simp [getM, nFG]) badF⟩
    clear hu HS HS1 HS1' HS2 HS3 HS4 HS5 h1 h2 h3 h4 h5 h6 HI1 HI2 HI3 HI4 HI5
    cases safe with
    | true =>
      have h7 := Lib.hid (stSyncDir HS6.out)
      go_upto_region 16 with (go_at_call 17; refine h7.out.mono ?_; rintro e w8 ⟨rfl, nb3, hS⟩; have HS7 : Aside0 (St W w8 ⟨gd, bd, nb3, .slice none 0 0, -1, [(nF, g2)], [(nF, g2)], [], [⟨g, v1, x, (x.length : Int)⟩, ⟨g2, v3, y, (y.length : Int)⟩]⟩) := ⟨hS⟩; clear hS)
      have HI7 : Aside0 (Inv ⟨gd, bd, nb3, .slice none 0 0, -1, [(nF, g2)], [(nF, g2)], [], [⟨g, v1, x, (x.length : Int)⟩, ⟨g2, v3, y, (y.length : Int)⟩]⟩ 7 200) := ⟨HI6.out.syncDir nb3⟩
      have h8 := Lib.hid (swapCrash HS7.out HI7.out (by decide) (by decide) pick P HP.out HPB.out (dirP := [(nF, g2)]) (by rw [List.take_nil]; rfl) (s := nF) (f := ⟨g2, v3, y, (y.length : Int)⟩) (by simp) (by simp [getM]) rfl badF)
      go_upto_region 17 with (go_at_call 18; refine h8.out.mono ?_; rintro e w9 ⟨rfl, d', f', hS, hgd, hdir, hf', hbs, hfi, hi⟩; have HS8 := Aside0.mk hS; have HI8 := Aside0.mk hi; have HDIR := Aside0.mk hdir; clear hS hi hdir)
      have h9 := Lib.hid (stRead HS8.out nF hf' hfi (by rw [hbs]; have := HYL.out; show y.length < _; omega))
      rw [hgd, hbs] at h9
      go_upto_region 19 with (go_at_call 14; refine h9.out.mono ?_; rintro e wa ⟨v8, rfl, hR, hS⟩; obtain ⟨Az, cz, e8, hcz, hCz⟩ := Kd.R_reads hR; subst e8; have HCz := Aside0.mk hCz; have HS9 := Aside0.mk hS; clear hR hS hCz hcz)
      have hL := Lib.hid (stList HS9.out HI8.out.dir.keys (fun p hp => by rw [HDIR.out] at hp; obtain rfl := List.mem_singleton.1 hp; show nF.size ≤ maxLen; decide +kernel) (by rw [HDIR.out]; show 1 ≤ 1000000; decide))
      rw [hgd, HDIR.out] at hL
      have cz1 : (convert 29 9 (.slice Az y.length cz)).run Try.prog wa = .ok (.string (strOfNums y)) wa := Kd.C_string Try.underlying29 Try.underlying5 Try.underlying9 HCz.out
      have cy1 : (convert 29 9 (.slice A2 y.length c2)).run Try.prog wa = .ok (.string (strOfNums y)) wa := Kd.C_string Try.underlying29 Try.underlying5 Try.underlying9 (HS9.out.came HY.out).c
      have hk := knownC
      go_wp2_with (first
        | (go_at_call 20; refine hL.out.mono ?_; rintro e wb ⟨v9, rfl, hR, -, hS⟩; obtain ⟨Al, cl, e9⟩ := Kd.R_slice hR; subst e9; have HSb := Aside0.mk hS; have hlen : (sortL ([(nF, g2)].map (·.1))).length = 1 := (by simp [sortL]); rw [hlen]; clear hR hS)
        | (go_at_call 15; refine (hk _).mono ?_; rintro e wc ⟨rfl, hb⟩; have HSc := Aside0.mk (HSb.out.more hb); clear hb))
      go_ret
      exact ⟨rfl, HSc.out.below⟩
    | false =>
      obtain ⟨dirP, f, hdp, hf, hgf, hfs, hfb⟩ : ∃ dirP f, runM [(nF, g)] (([⟨0, nG, ⟨#[]⟩, some g2⟩, ⟨1, nG, nF, none⟩] : List Chg).take (P % (([⟨0, nG, ⟨#[]⟩, some g2⟩, ⟨1, nG, nF, none⟩] : List Chg).length + 1))) = some dirP ∧
          f ∈ ([⟨g, v1, x, (x.length : Int)⟩, ⟨g2, v3, y, (y.length : Int)⟩] : List FS) ∧ getM dirP nF = some f.g ∧ f.safe = (f.bs.length : Int) ∧ (f.bs = x ∨ f.bs = y) := by
        have h3 : P % 3 = 0 ∨ P % 3 = 1 ∨ P % 3 = 2 := by omega
        rcases h3 with h3 | h3 | h3
        · exact ⟨[(nF, g)], ⟨g, v1, x, (x.length : Int)⟩, by rw [show P % (([⟨0, nG, ⟨#[]⟩, some g2⟩, ⟨1, nG, nF, none⟩] : List Chg).length + 1) = 0 from h3]; rfl, by simp, by simp [getM], rfl, .inl rfl⟩
        · exact ⟨[(nF, g), (nG, g2)], ⟨g, v1, x, (x.length : Int)⟩, by rw [show P % (([⟨0, nG, ⟨#[]⟩, some g2⟩, ⟨1, nG, nF, none⟩] : List Chg).length + 1) = 1 from h3]; simp [runM, doM, putM, nFG], by simp, by simp [getM], rfl, .inl rfl⟩
        · exact ⟨[(nF, g2)], ⟨g2, v3, y, (y.length : Int)⟩, by rw [show P % (([⟨0, nG, ⟨#[]⟩, some g2⟩, ⟨1, nG, nF, none⟩] : List Chg).length + 1) = 2 from h3]; simp [runM, doM, putM, nFG, delM, getM], by simp, by simp [getM], rfl, .inr rfl⟩
      have hbl : f.bs.length ≤ 200 := by
        have := HXL.out; have := HYL.out
        rcases hfb with h | h <;> rw [h] <;> omega
      have HBL := Aside0.mk hbl
      have h8 := Lib.hid (swapCrash HS6.out HI6.out (by decide) (by decide) pick P HP.out HPB.out hdp (s := nF) hf hgf hfs badF)
      have HFB := Aside0.mk hfb
      clear hdp hf hgf hfs hbl hfb
      generalize hz : f.bs = z at h8 HBL HFB
      clear hz f
      go_upto_region 17 with (go_at_call 18; refine h8.out.mono ?_; rintro e w9 ⟨rfl, d', f', hS, hgd, hdir, hf', hbs, hfi, hi⟩; have HS8 := Aside0.mk hS; clear hS hi hdir)
      have h9 := Lib.hid (stRead HS8.out nF hf' hfi (by rw [hbs]; have := HBL.out; omega))
      rw [hgd, hbs] at h9
      go_upto_region 20 with (go_at_call 14; refine h9.out.mono ?_; rintro e wa ⟨v8, rfl, hR, hS⟩; obtain ⟨Az, cz, e8, hcz, hCz⟩ := Kd.R_reads hR; subst e8; have HCz := Aside0.mk hCz; have HS9 := Aside0.mk hS; clear hR hS hCz hcz)
      have cz1 : (convert 29 9 (.slice Az z.length cz)).run Try.prog wa = .ok (.string (strOfNums z)) wa := Kd.C_string Try.underlying29 Try.underlying5 Try.underlying9 HCz.out
      have cy1 : (convert 29 9 (.slice A2 y.length c2)).run Try.prog wa = .ok (.string (strOfNums y)) wa := Kd.C_string Try.underlying29 Try.underlying5 Try.underlying9 (HS9.out.came HY.out).c
      have cx1 : (convert 29 9 (.slice A x.length c)).run Try.prog wa = .ok (.string (strOfNums x)) wa := Kd.C_string Try.underlying29 Try.underlying5 Try.underlying9 (HS9.out.came HX.out).c
      have hk := knownC
      have hq : (strOfNums z).toList = (strOfNums x).toList ∨ (¬ (strOfNums y).toList = (strOfNums x).toList ∧ (strOfNums z).toList = (strOfNums y).toList) := by
        rcases HFB.out with h | h
        · exact .inl (by rw [h])
        · by_cases hc : (strOfNums z).toList = (strOfNums x).toList
          · exact .inl hc
          · exact .inr ⟨by rw [← h]; exact hc, by rw [h]⟩
      generalize strOfNums z = sz at *
      generalize strOfNums x = sx at *
      generalize strOfNums y = sy at *
      rcases hq with q1 | ⟨q1, q2⟩
      · go_wp2_with (go_at_call 15; refine (hk _).mono ?_; rintro e wc ⟨rfl, hb⟩; have HSc := Aside0.mk (HS9.out.more hb); clear hb)
        go_ret
        exact ⟨rfl, HSc.out.below⟩
      · go_wp2_with (go_at_call 15; refine (hk _).mono ?_; rintro e wc ⟨rfl, hb⟩; have HSc := Aside0.mk (HS9.out.more hb); clear hb)
        go_ret
        exact ⟨rfl, HSc.out.below⟩
end Go.Proofs.Ytoninmgglcepmaa.Dk
