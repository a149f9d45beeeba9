/- DiskSafe: the walk. -/
import Derived.Test.YtoninmgglcepmaaD10
import Derived.Test.YtoninmgglcepmaaWFootNe
namespace Go.Proofs.Ytoninmgglcepmaa.Dk
open Go.ChangeMaps hiding rd
open RegD Go.RowKit Go.Proofs.YtoninmgglcepmaaW.PrintWords Go.Proofs.YtoninmgglcepmaaW.PrintLast Go.Proofs.YtoninmgglcepmaaW.PrintMore Mp
attribute [local go_sem] max2_int min2_int max_two min_two max_three min_three max_four min_four
set_option linter.unusedVariables false
set_option linter.unusedSimpArgs false
/-! What a crash leaves of a file -/
theorem crB_len {q : Nat} {f : FS} (h : f.safe.toNat ≤ f.bs.length) : (crB q f).length = nOf q f := by
  have := nOf_le (q := q) h
  unfold crB
  split
  · rw [List.length_set, List.length_take]; omega
  · rw [List.length_take]; omega
theorem crB_take {q : Nat} {f : FS} (h : f.safe.toNat ≤ f.bs.length) : (crB q f).take f.safe.toNat = f.bs.take f.safe.toNat := by
  have hn : f.safe.toNat ≤ nOf q f := by unfold nOf; omega
  unfold crB
  split
  · next hc =>
    rw [List.take_set_of_le (by unfold nOf at *; omega), List.take_take, Nat.min_eq_left hn]
  · rw [List.take_take, Nat.min_eq_left hn]
theorem crB_get {q : Nat} {f : FS} (h : f.safe.toNat ≤ f.bs.length) (i : Nat) (hi : i < nOf q f) : rd (crB q f) (i : Int) = rd f.bs (i : Int) ∨ (i = nOf q f - 1 ∧ rd (crB q f) (i : Int) = bits .xor .u8 (rd f.bs (i : Int)) 85) := by
  have hn := nOf_le (q := q) h
  have ht : ∀ j : Nat, j < nOf q f → rd (f.bs.take (nOf q f)) (j : Int) = rd f.bs (j : Int) := fun j hj => by
    unfold rd
    rw [Int.toNat_natCast, List.getD_eq_getElem?_getD, List.getD_eq_getElem?_getD, List.getElem?_take, if_pos hj]
  unfold crB
  split
  · next hc =>
    by_cases hl : i = nOf q f - 1
    · right
      refine ⟨hl, ?_⟩
      have h2 : ((nOf q f : Int) - 1) = ((nOf q f - 1 : Nat) : Int) := by omega
      rw [h2, ht _ (by omega), hl]
      unfold rd
      rw [Int.toNat_natCast, List.getD_eq_getElem?_getD, List.getElem?_set_self (by rw [List.length_take]; omega)]
      rfl
    · left
      rw [← ht i hi]
      unfold rd
      rw [Int.toNat_natCast, List.getD_eq_getElem?_getD, List.getElem?_set_ne (fun he => hl he.symm)]
      exact (List.getD_eq_getElem?_getD ..).symm
  · left
    exact ht i hi
theorem crF_safe {q : Nat} {f : FS} (h : f.safe.toNat ≤ f.bs.length) : (crF q f).safe = ((crF q f).bs.length : Int) := by
  show (nOf q f : Int) = ((crB q f).length : Int)
  rw [crB_len h]
theorem crB_again {q q2 : Nat} {f : FS} (h : f.safe.toNat ≤ f.bs.length) : crB q2 (crF q f) = crB q f := by
  have hs : (crF q f).safe.toNat = (crF q f).bs.length := by rw [crF_safe h]; rfl
  have hk : kOf q2 (crF q f) = 0 := by unfold kOf; rw [hs, Nat.sub_self]; exact Nat.mod_one _
  have hn : nOf q2 (crF q f) = (crF q f).bs.length := by unfold nOf; rw [hk, hs]; rfl
  unfold crB
  rw [hk, if_neg (by omega), hn, List.take_length]
  rfl
def nF : ByteArray := ⟨#[102]⟩
def nG : ByteArray := ⟨#[103]⟩
theorem nFG : nF ≠ nG := by decide +kernel
theorem badF : badName nF = false := by decide +kernel
theorem badG : badName nG = false := by decide +kernel
/-- Bytes that came in: they are no part of a disk that is new since. -/
theorem St.came {w0 w : World} {d : DSt} (h : St w0 w d) {A : Option Addr} {b : List Int} (hc : Kd.C (Kd.int .u8) w0 A b.length b) : Bytes w d A b :=
  ⟨Kd.C_below hc h.below, fun hp ad he => by
    subst he
    have hl := Kd.C_lt hc hp (by decide)
    exact ⟨Nat.lt_of_lt_of_le hl h.kept.1, fun hF => by have := h.own _ hF; omega⟩⟩
/-- A crash where both files were there: what the two disks' names may be. -/
theorem pick_two {P : Nat} {F G : ByteArray} {g g2 : Nat} (hFG : F ≠ G) (hg : g ≠ g2) {e : ByteArray} :
    ∃ dirP, runM [(F, g)] (([⟨0, G, e, some g2⟩] : List Chg).take (P % (([⟨0, G, e, some g2⟩] : List Chg).length + 1))) = some dirP ∧ (dirP = [(F, g)] ∨ dirP = [(F, g), (G, g2)]) := by
  have h2 : P % 2 = 0 ∨ P % 2 = 1 := by omega
  rcases h2 with h2 | h2
  · exact ⟨[(F, g)], by rw [show P % (([⟨0, G, e, some g2⟩] : List Chg).length + 1) = 0 from h2]; rfl, .inl rfl⟩
  · refine ⟨[(F, g), (G, g2)], ?_, .inr rfl⟩
    rw [show P % (([⟨0, G, e, some g2⟩] : List Chg).length + 1) = 1 from h2]
    simp [runM, doM, putM, hFG]
theorem range64 {n : Int} (h : (Lit.int .i64 n).wf = true) : -9223372036854775808 ≤ n ∧ n ≤ 9223372036854775807 := by
  have h2 : IntKind.i64.min ≤ n ∧ n ≤ 9223372036854775807 := by simpa [Lit.wf] using h
  have h3 : IntKind.i64.min = -9223372036854775808 := by decide
  omega
theorem stCrashK {w0 w : World} {d : DSt} (h : St w0 w d) (pick : Int) (P : Nat) (hp : (P : Int) = if pick < 0 then -(pick + 1) else pick) (hpb : -9223372036854775808 ≤ pick ∧ pick ≤ 9223372036854775807) (hch : d.chg.length ≤ 1000000000) {l0 : List (ByteArray × Nat)} (hrun : runM d.safe d.chg = some l0)
    {dirP : List (ByteArray × Nat)} (hdp : runM d.safe (d.chg.take (P % (d.chg.length + 1))) = some dirP) (hok : ∀ p ∈ dirP, ∃ f ∈ d.fs, f.g = p.2) (hnd : (dirP.map (·.2)).Nodup) (hsf : ∀ f ∈ d.fs, 0 ≤ f.safe ∧ f.safe ≤ f.bs.length ∧ f.bs.length ≤ 1000000000000) :
    Calls Try.prog 18 #[.pointer (some ⟨d.gd, 0, none⟩), .int .i64 pick] w fun e w' => e = .returned (.tuple #[]) ∧ Kept w w' (Foot d) ∧ ∃ nb1 nb2, St w0 w' (crashD d dirP (P / (d.chg.length + 1)) nb1 nb2) := by
  refine (crashC h.at_ pick P hp hpb hch hrun hdp hok hnd hsf).mono fun e w' ⟨he, nb1, nb2, h1, h2, hD, hK⟩ => ⟨he, hK, nb1, nb2, h.step hD hK fun k hk => ?_⟩
  rcases hk with hk | hk | hk | hk | ⟨x, hx, hk⟩
  · exact .inl (.inl hk)
  · exact .inr (by rw [hk]; exact h1)
  · exact .inr (by rw [hk]; exact h2)
  · cases hk
  · refine .inl (foot_fsD (q := P / (d.chg.length + 1)) (S := dirP.map (fun x : ByteArray × Nat => x.2)) (d := d) (.inr (.inr (.inr (.inr ⟨x, hx, hk⟩)))))
/-- The first 200 bytes of what came in. -/
theorem came_cut {W : World} {A : Option Addr} {a x : List Int} (hr : Kd.C (Kd.int .u8) W A a.length a) (hx : x = a.take 200) : Kd.C (Kd.int .u8) W A x.length x := by
  have := Kd.C_of_reads (d := (0 : Int)) (h1 := fun _ => rfl) ((Kd.reads_of_C (enc := Value.int .u8) (d := (0 : Int)) (h1 := fun _ => rfl) hr).take_ x.length (by rw [hx, List.length_take]; omega))
  rw [hx, List.length_take] at this ⊢
  rw [show a.take (min 200 a.length) = a.take 200 from by rw [← List.take_take, List.take_length]] at this
  exact this
set_option maxRecDepth 100000 in
theorem cut_cases {A : Option Addr} {c : Nat} {a x : List Int} (hx : x = a.take 200) (hc : a.length ≤ c) :
    (decide ((200 : Int) < (a.length : Int)) = true ∧ ∀ w : World, (Instr.slice 29 (.slice A a.length c) none (some (.int .i64 200)) none).run Try.prog w = .ok (.slice A x.length c) w) ∨ (decide ((200 : Int) < (a.length : Int)) = false ∧ x = a) := by
  by_cases h : 200 < a.length
  · refine .inl ⟨decide_eq_true (by omega), fun w => ?_⟩
    rw [cut_to (P := Try.prog) 29 5 .i64 Try.underlying29 (i := _) rfl A a.length c 200 (by omega) (by omega) hc w, hx, List.length_take, Nat.min_eq_left (by omega)]
    rfl
  · exact .inr ⟨decide_eq_false (by omega), by rw [hx, List.take_of_length_le (by omega)]⟩
set_option maxHeartbeats 8000000 in
set_option maxRecDepth 100000 in
theorem safeW (W : World) (A : Option Addr) (c : Nat) (a : List Int) (hr : Kd.C (Kd.int .u8) W A a.length a) (hc : a.length ≤ c) (hm : a.length ≤ maxLen) (hw : ∀ x ∈ a, (Lit.int .u8 x).wf = true) (hy1 : a.length ≤ 140737488351232)
    (A2 : Option Addr) (c2 : Nat) (b : List Int) (hr2 : Kd.C (Kd.int .u8) W A2 b.length b) (hc2 : b.length ≤ c2) (hm2 : b.length ≤ maxLen) (hw2 : ∀ x ∈ b, (Lit.int .u8 x).wf = true) (hy2 : b.length ≤ 140737488351232) (pick : Int) (wp : (Lit.int .i64 pick).wf = true) (again : Int) (wa : (Lit.int .i64 again).wf = true) :
    Calls Try.prog 4 #[.slice A a.length c, .slice A2 b.length c2, .int .i64 pick, .int .i64 again] W fun e w' => e = .returned (.bool true) ∧ Below W.heap.size W w' := by
  obtain ⟨x, hx⟩ : ∃ x, x = a.take 200 := ⟨_, rfl⟩
  obtain ⟨y, hy⟩ : ∃ y, y = b.take 200 := ⟨_, rfl⟩
  have hxl : x.length ≤ 200 := by rw [hx, List.length_take]; omega
  have hyl : y.length ≤ 200 := by rw [hy, List.length_take]; omega
  have HX := Aside0.mk (came_cut hr hx)
  have HY := Aside0.mk (came_cut hr2 hy)
  have HXL := Aside0.mk hxl
  have HYL := Aside0.mk hyl
  have hN := Lib.hid (stNew W)
  obtain ⟨P, hP⟩ : ∃ P : Nat, (P : Int) = if pick < 0 then -(pick + 1) else pick := ⟨(if pick < 0 then -(pick + 1) else pick).toNat, by split <;> omega⟩
  obtain ⟨P2, hP2⟩ : ∃ P : Nat, (P : Int) = if again < 0 then -(again + 1) else again := ⟨(if again < 0 then -(again + 1) else again).toNat, by split <;> omega⟩
  have HP := Aside0.mk hP
  have HP2 := Aside0.mk hP2
  have HPB := Aside0.mk (range64 wp)
  have HPB2 := Aside0.mk (range64 wa)
  clear hP hP2 wp wa
  have hca := cut_cases (A := A) hx hc
  have hcb := cut_cases (A := A2) hy hc2
  clear hr hr2 hx hy hxl hyl hc hc2 hm hm2 hw hw2 hy1 hy2
  rcases hca with ⟨b1, hcutA⟩ | ⟨b1, rfl⟩ <;> rcases hcb with ⟨b2, hcutB⟩ | ⟨b2, rfl⟩
  rotate_left 3
  all_goals
    go_enter Try.func4, Try.ntmps4
    go_upto_region 8 with (go_at_call 11; refine hN.out.mono ?_; rintro e w1 ⟨gd, bd, bs, vch, rfl, hS⟩; have HS := Aside0.mk hS; clear hS)
    have hs0 : Small ⟨gd, bd, bs, vch, -1, [], [], [], []⟩ := ⟨fun p hp => (by cases hp), fun f hf => (by cases hf), Nat.zero_le _, Nat.zero_le _, ⟨(by decide : (-9223372036854775808 : Int) ≤ -1), (by decide : (-1 : Int) ≤ 9223372036854775807)⟩⟩
    have h1 := Lib.hid (appNew HS.out (name := nF) (cp := c) (hs0.fit (by have := HXL.out; omega)) (HS.out.came HX.out) (hs0.zero (by have := HXL.out; omega) badF (.inl (show (-1 : Int) < 0 by decide))) rfl)
    go_upto_region 9 with (go_at_call 13; refine h1.out.mono ?_; rintro e w2 ⟨rfl, g, v1, vc1, -, hS⟩; have HS1 := Aside0.mk hS; clear hS)
    have HS1' : Aside0 (St W w2 ⟨gd, bd, bs, vc1, -1, [(nF, g)], [], [⟨0, nF, ⟨#[]⟩, some g⟩], [⟨g, v1, x, 0⟩]⟩) := HS1
    have h2 := Lib.hid (stSync HS1'.out nF (f := ⟨g, v1, x, 0⟩) (List.mem_singleton.2 rfl) (find_of badF (by simp [getM])))
    go_upto_region 10 with (go_at_call 16; refine h2.out.mono ?_; rintro e w3 ⟨rfl, hS⟩; have HS2 : Aside0 (St W w3 ⟨gd, bd, bs, vc1, -1, [(nF, g)], [], [⟨0, nF, ⟨#[]⟩, some g⟩], [⟨g, v1, x, (x.length : Int)⟩]⟩) := ⟨by simpa [updF] using hS⟩; clear hS)
    have h3 := Lib.hid (stSyncDir HS2.out)
    go_upto_region 11 with (go_at_call 17; refine h3.out.mono ?_; rintro e w4 ⟨rfl, nb, hS⟩; have HS3 : Aside0 (St W w4 ⟨gd, bd, nb, .slice none 0 0, -1, [(nF, g)], [(nF, g)], [], [⟨g, v1, x, (x.length : Int)⟩]⟩) := ⟨hS⟩; clear hS)
    have hs3 : Small ⟨gd, bd, nb, .slice none 0 0, -1, [(nF, g)], [(nF, g)], [], [⟨g, v1, x, (x.length : Int)⟩]⟩ := ⟨fun p hp => ⟨_, List.mem_singleton.2 rfl, by obtain rfl := List.mem_singleton.1 hp; rfl⟩, fun f hf => (by obtain rfl := List.mem_singleton.1 hf; have := HXL.out; simp only; omega), Nat.le_add_left _ _, Nat.zero_le _, ⟨(by decide : (-9223372036854775808 : Int) ≤ -1), (by decide : (-1 : Int) ≤ 9223372036854775807)⟩⟩
    have h4 := Lib.hid (appOld HS3.out (name := nF) (cp := c2) (hs3.fit (by have := HYL.out; omega)) (HS3.out.came HY.out) (hs3.zero (by have := HYL.out; omega) badF (.inl (show (-1 : Int) < 0 by decide))) (f := ⟨g, v1, x, (x.length : Int)⟩) (List.mem_singleton.2 rfl) (by simp [getM]))
    go_upto_region 12 with (go_at_call 13; refine h4.out.mono ?_; rintro e w5 ⟨rfl, v2, hS⟩; have HS4 : Aside0 (St W w5 ⟨gd, bd, nb, .slice none 0 0, -1, [(nF, g)], [(nF, g)], [], [⟨g, v2, x ++ y, (x.length : Int)⟩]⟩) := ⟨by simpa [growF, updF, newQ] using hS⟩; clear hS)
    have hs4 : Small ⟨gd, bd, nb, .slice none 0 0, -1, [(nF, g)], [(nF, g)], [], [⟨g, v2, x ++ y, (x.length : Int)⟩]⟩ := ⟨fun p hp => ⟨_, List.mem_singleton.2 rfl, by obtain rfl := List.mem_singleton.1 hp; rfl⟩, fun f hf => (by obtain rfl := List.mem_singleton.1 hf; have := HXL.out; have := HYL.out; simp only [List.length_append]; omega), Nat.le_add_left _ _, Nat.zero_le _, ⟨(by decide : (-9223372036854775808 : Int) ≤ -1), (by decide : (-1 : Int) ≤ 9223372036854775807)⟩⟩
    have h5 := Lib.hid (appNew HS4.out (name := nG) (cp := c2) (hs4.fit (by have := HYL.out; omega)) (HS4.out.came HY.out) (hs4.zero (by have := HYL.out; omega) badG (.inl (show (-1 : Int) < 0 by decide))) (by simp [getM, nFG]))
    go_upto_region 13 with (go_at_call 13; refine h5.out.mono ?_; rintro e w6 ⟨rfl, g2, v3, vc2, hgg, hS⟩; have HG2 : Aside0 (g ≠ g2) := ⟨by have := hgg _ (List.mem_singleton.2 rfl); exact this⟩; have HS5 : Aside0 (St W w6 ⟨gd, bd, nb, vc2, -1, [(nF, g), (nG, g2)], [(nF, g)], [⟨0, nG, ⟨#[]⟩, some g2⟩], [⟨g, v2, x ++ y, (x.length : Int)⟩, ⟨g2, v3, y, 0⟩]⟩) := ⟨by simpa [addF, newQ, putM, nFG] using hS⟩; clear hS hgg)
    obtain ⟨dirP, hdp, hdir⟩ := pick_two (P := P) nFG HG2.out (e := ⟨#[]⟩)
    have hcs : (∀ p ∈ dirP, ∃ f ∈ ([⟨g, v2, x ++ y, (x.length : Int)⟩, ⟨g2, v3, y, 0⟩] : List FS), f.g = p.2) ∧ (dirP.map (·.2)).Nodup ∧ getM dirP nF = some g ∧ g ∈ dirP.map (·.2) := by
      have := HG2.out
      rcases hdir with rfl | rfl
      · exact ⟨by simp, by simp, by simp [getM], by simp⟩
      · exact ⟨by simp, by simpa using this, by simp [getM], by simp⟩
    have hsf : ∀ f ∈ ([⟨g, v2, x ++ y, (x.length : Int)⟩, ⟨g2, v3, y, 0⟩] : List FS), 0 ≤ f.safe ∧ f.safe ≤ f.bs.length ∧ f.bs.length ≤ 1000000000000 := fun f hf => by
      have := HXL.out; have := HYL.out
      rcases List.mem_cons.1 hf with rfl | hf
      · exact ⟨by simp only; omega, by simp only [List.length_append]; omega, by simp only [List.length_append]; omega⟩
      · obtain rfl := List.mem_singleton.1 hf
        exact ⟨by simp only; omega, by simp only; omega, by simp only; omega⟩
    have h6 := Lib.hid (stCrash HS5.out pick P HP.out HPB.out (show 1 ≤ 1000000000 by decide) (by simp [runM, doM, putM, nFG]; rfl) hdp hcs.1 hcs.2.1 hsf)
    have HCS := Aside0.mk hcs
    have HSF := Aside0.mk hsf
    clear hdp hdir hcs hsf
    generalize P / (([⟨0, nG, ⟨#[]⟩, some g2⟩] : List Chg).length + 1) = q at h6
    go_upto_region 14 with (go_at_call 18; refine h6.out.mono ?_; rintro e w7 ⟨rfl, nb1, nb2, hS⟩; have HS6 := Aside0.mk hS; clear hS)
    have hfm : crF q ⟨g, v2, x ++ y, (x.length : Int)⟩ ∈ fsD q (dirP.map (·.2)) [⟨g, v2, x ++ y, (x.length : Int)⟩, ⟨g2, v3, y, 0⟩] := List.mem_map.2 ⟨_, List.mem_cons_self .., if_pos HCS.out.2.2.2⟩
    have hsl : (⟨g, v2, x ++ y, (x.length : Int)⟩ : FS).safe.toNat ≤ (⟨g, v2, x ++ y, (x.length : Int)⟩ : FS).bs.length := by simp
    obtain ⟨z, hz⟩ : ∃ z, z = crB q ⟨g, v2, x ++ y, (x.length : Int)⟩ := ⟨_, rfl⟩
    obtain ⟨n, hn⟩ : ∃ n, n = nOf q ⟨g, v2, x ++ y, (x.length : Int)⟩ := ⟨_, rfl⟩
    have hzl : z.length = n := by rw [hz, hn, crB_len hsl]
    have hnl : n ≤ x.length + y.length := by have := nOf_le (q := q) hsl; rw [hn]; simpa using this
    have hnx : x.length ≤ n := by rw [hn]; unfold nOf; exact Nat.le_add_right _ _
    have hzt : z.take x.length = x := by have := crB_take (q := q) hsl; rw [hz]; simpa using this
    have hzg : ∀ i : Nat, i < n → rd z (i : Int) = rd (x ++ y) (i : Int) ∨ (i = n - 1 ∧ rd z (i : Int) = bits .xor .u8 (rd (x ++ y) (i : Int)) 85) := fun i hi => by rw [hz, hn]; exact crB_get hsl i (hn ▸ hi)
    have h7 := Lib.hid (readOk HS6.out.at_ nF hfm (find_of badF HCS.out.2.2.1) (by rw [show (crF q ⟨g, v2, x ++ y, (x.length : Int)⟩).bs = z from hz.symm, hzl]; have := HXL.out; have := HYL.out; omega))
    rw [show (crF q ⟨g, v2, x ++ y, (x.length : Int)⟩).bs = z from hz.symm] at h7
    have HZ := Aside0.mk hz
    have HZL := Aside0.mk hzl
    have HNL := Aside0.mk hnl
    have HNX := Aside0.mk hnx
    have HZT := Aside0.mk hzt
    have HZG := Aside0.mk hzg
    have HFM := Aside0.mk hfm
    have HSL := Aside0.mk hsl
    clear hz hzl hnl hnx hzt hzg hn hfm hsl
    go_upto_region 15 with (go_at_call 14; refine h7.out.mono ?_; rintro e w8 ⟨v8, rfl, hR, hb⟩; obtain ⟨Az, cz, e8, hcz, hCz⟩ := Kd.R_reads hR; subst e8; have HRz := Aside0.mk hR; have HCz := Aside0.mk hCz; have HS7 := Aside0.mk (HS6.out.more hb); have HCC := Aside0.mk hcz; clear hR hb hCz hcz)
    have hl1 : (x.length : Int) ≤ (z.length : Int) := by have := HZL.out; have := HNX.out; omega
    have hcutz := cut_to (P := Try.prog) 29 5 .i64 Try.underlying29 (i := _) rfl Az z.length cz (x.length : Int) (by omega) hl1 HCC.out
    rw [Int.toNat_natCast] at hcutz
    have hCx : Kd.C (Kd.int .u8) w8 Az x.length x := by
      have := Kd.C_of_reads (d := (0 : Int)) (h1 := fun _ => rfl) ((Kd.reads_of_C (enc := Value.int .u8) (d := (0 : Int)) (h1 := fun _ => rfl) HCz.out).take_ x.length (by omega))
      rw [HZT.out] at this
      exact this
    have hCa : Kd.C (Kd.int .u8) w8 A x.length x := (HS7.out.came HX.out).c
    have e1 : decide (z.length < x.length) = false := decide_eq_false (by omega)
    have e2 : IntKind.i64.wrap ((x.length : Int) + (y.length : Int)) = (x.length : Int) + (y.length : Int) := by have := HXL.out; have := HYL.out; rw [IntKind.wrap_i64]; omega
    have e3 : decide ((x.length : Int) + (y.length : Int) < (z.length : Int)) = false := decide_eq_false (by have := HZL.out; have := HNL.out; omega)
    refine hstart (fun w' => Kd.C (Kd.int .u8) w' Az x.length x ∧ Kd.C (Kd.int .u8) w' A x.length x) [] 29 (by kernel_rfl) rfl (by kernel_rfl) (⟨Kd.C_below hCx (below_drew (Below.refl _ _)), Kd.C_below hCa (below_drew (Below.refl _ _))⟩) (fun w_ hw_ s_ => ?_)
    have HS8 := Aside0.mk (show St W w_ _ from hw_ ▸ HS7.out.more (below_drew (Below.refl _ _)))
    have HRz8 := Aside0.mk (show Kd.R (Kd.int .u8) 5 w_ w7.heap.size (fun _ => True) (.slice Az z.length cz) z from hw_ ▸ Kd.R_drew HRz.out)
    clear hw_ HS7 HRz
    refine hpure 0 (some 50) 1 [] (v := ?_) (a' := ?_) s_ rfl rfl (by kernel_rfl) (Or.inl ⟨by rfl, ?_⟩) ?_ ?_
    rotate_left
    · intro w' s0; go_simp; with_reducible rfl
    rotate_left
    · simp only [Act.put, List.setIfInBounds_toArray, List.set_cons_zero, List.set_cons_succ, i64_w, i32_w]; rfl
    refine hpure 1 (some 51) 2 [] (v := ?_) (a' := ?_) s_ rfl rfl (by kernel_rfl) (Or.inl ⟨by rfl, ?_⟩) ?_ ?_
    rotate_left
    · intro w' s0; go_simp; with_reducible rfl
    rotate_left
    · simp only [Act.put, List.setIfInBounds_toArray, List.set_cons_zero, List.set_cons_succ, i64_w, i32_w]; rfl
    refine hpure 2 (some 52) 3 [] (v := ?_) (a' := ?_) s_ rfl rfl (by kernel_rfl) (Or.inl ⟨by rfl, ?_⟩) ?_ ?_
    rotate_left
    · intro w' s0; go_simp; with_reducible rfl
    rotate_left
    · simp only [Act.put, List.setIfInBounds_toArray, List.set_cons_zero, List.set_cons_succ, i64_w, i32_w]; rfl
    refine hpure 3 (some 53) 4 [] (v := ?_) (a' := ?_) s_ rfl rfl (by kernel_rfl) (Or.inl ⟨by rfl, ?_⟩) ?_ ?_
    rotate_left
    · intro w' s0; go_simp; with_reducible rfl
    rotate_left
    · simp only [Act.put, List.setIfInBounds_toArray, List.set_cons_zero, List.set_cons_succ, i64_w, i32_w]; rfl
    refine hpure 4 (some 54) 5 [] (v := ?_) (a' := ?_) s_ rfl rfl (by kernel_rfl) (Or.inl ⟨by rfl, ?_⟩) ?_ ?_
    rotate_left
    · intro w' s0; go_simp; with_reducible rfl
    rotate_left
    · simp only [Act.put, List.setIfInBounds_toArray, List.set_cons_zero, List.set_cons_succ, i64_w, i32_w]; rfl
    refine hpure 5 (some 55) 6 [] (v := ?_) (a' := ?_) s_ rfl rfl (by kernel_rfl) (Or.inl ⟨by rfl, ?_⟩) ?_ ?_
    rotate_left
    · intro w' s0; go_simp; with_reducible rfl
    rotate_left
    · simp only [Act.put, List.setIfInBounds_toArray, List.set_cons_zero, List.set_cons_succ, i64_w, i32_w]; rfl
    refine hpure 6 (some 56) 7 [] (v := ?_) (a' := ?_) s_ rfl rfl (by kernel_rfl) (Or.inl ⟨by rfl, ?_⟩) ?_ ?_
    rotate_left
    · intro w' s0; go_simp; with_reducible rfl
    rotate_left
    · simp only [Act.put, List.setIfInBounds_toArray, List.set_cons_zero, List.set_cons_succ, i64_w, i32_w]; rfl
    refine hpure 7 (some 57) 8 [] (v := ?_) (a' := ?_) s_ rfl rfl (by kernel_rfl) (Or.inl ⟨by rfl, ?_⟩) ?_ ?_
    rotate_left
    · intro w' s0; go_simp; with_reducible rfl
    rotate_left
    · simp only [Act.put, List.setIfInBounds_toArray, List.set_cons_zero, List.set_cons_succ, i64_w, i32_w]; rfl
    refine hpure 8 (some 58) 9 [] (v := ?_) (a' := ?_) s_ rfl rfl (by kernel_rfl) (Or.inl ⟨by rfl, ?_⟩) ?_ ?_
    rotate_left
    · intro w' s0; go_simp; with_reducible rfl
    rotate_left
    · simp only [Act.put, List.setIfInBounds_toArray, List.set_cons_zero, List.set_cons_succ, i64_w, i32_w]; rfl
    refine hpure 9 (some 59) 10 [] (v := ?_) (a' := ?_) s_ rfl rfl (by kernel_rfl) (Or.inl ⟨by rfl, ?_⟩) ?_ ?_
    rotate_left
    · intro w' s0; go_simp; with_reducible rfl
    rotate_left
    · simp only [Act.put, List.setIfInBounds_toArray, List.set_cons_zero, List.set_cons_succ, i64_w, i32_w]; rfl
    refine hpure 10 (some 60) 11 [] (v := ?_) (a' := ?_) s_ rfl rfl (by kernel_rfl) (Or.inl ⟨by rfl, ?_⟩) ?_ ?_
    rotate_left
    · intro w' s0; go_simp; with_reducible rfl
    rotate_left
    · simp only [Act.put, List.setIfInBounds_toArray, List.set_cons_zero, List.set_cons_succ, i64_w, i32_w]; rfl
    refine hpure 11 (some 61) 12 [] (v := ?_) (a' := ?_) s_ rfl rfl (by kernel_rfl) (Or.inl ⟨by rfl, ?_⟩) ?_ ?_
    rotate_left
    · intro w' s0; go_simp; with_reducible rfl
    rotate_left
    · simp only [Act.put, List.setIfInBounds_toArray, List.set_cons_zero, List.set_cons_succ, i64_w, i32_w]; rfl
    refine hpure 12 (some 62) 13 [] (v := ?_) (a' := ?_) s_ rfl rfl (by kernel_rfl) (Or.inl ⟨by rfl, ?_⟩) ?_ ?_
    rotate_left
    · intro w' s0; go_simp; with_reducible rfl
    rotate_left
    · simp only [Act.put, List.setIfInBounds_toArray, List.set_cons_zero, List.set_cons_succ, i64_w, i32_w]; rfl
    refine hpure 13 (some 63) 14 [] (v := ?_) (a' := ?_) s_ rfl rfl (by kernel_rfl) (Or.inl ⟨by rfl, ?_⟩) ?_ ?_
    rotate_left
    · intro w' s0; go_simp; with_reducible rfl
    rotate_left
    · simp only [Act.put, List.setIfInBounds_toArray, List.set_cons_zero, List.set_cons_succ, i64_w, i32_w]; rfl
    refine hpure 14 (some 64) 15 [] (v := ?_) (a' := ?_) s_ rfl rfl (by kernel_rfl) (Or.inl ⟨by rfl, ?_⟩) ?_ ?_
    rotate_left
    · intro w' s0; go_simp; with_reducible rfl
    rotate_left
    · simp only [Act.put, List.setIfInBounds_toArray, List.set_cons_zero, List.set_cons_succ, i64_w, i32_w]; rfl
    refine hpure 15 (some 65) 16 [] (v := ?_) (a' := ?_) s_ rfl rfl (by kernel_rfl) (Or.inl ⟨by rfl, ?_⟩) ?_ ?_
    rotate_left
    · intro w' s0; go_simp; with_reducible rfl
    rotate_left
    · simp only [Act.put, List.setIfInBounds_toArray, List.set_cons_zero, List.set_cons_succ, i64_w, i32_w]; rfl
    refine hpure 16 (some 66) 17 [] (v := ?_) (a' := ?_) s_ rfl rfl (by kernel_rfl) (Or.inl ⟨by rfl, ?_⟩) ?_ ?_
    rotate_left
    · intro w' s0; go_simp; with_reducible rfl
    rotate_left
    · simp only [Act.put, List.setIfInBounds_toArray, List.set_cons_zero, List.set_cons_succ, i64_w, i32_w]; rfl
    refine hpure 17 (some 67) 18 [] (v := ?_) (a' := ?_) s_ rfl rfl (by kernel_rfl) (Or.inl ⟨by rfl, ?_⟩) ?_ ?_
    rotate_left
    · intro w' s0; go_simp; with_reducible rfl
    rotate_left
    · simp only [Act.put, List.setIfInBounds_toArray, List.set_cons_zero, List.set_cons_succ, i64_w, i32_w]; rfl
    refine hpure 18 (some 68) 19 [] (v := ?_) (a' := ?_) s_ rfl rfl (by kernel_rfl) (Or.inl ⟨by rfl, ?_⟩) ?_ ?_
    rotate_left
    · intro w' s0; go_simp; with_reducible rfl
    rotate_left
    · simp only [Act.put, List.setIfInBounds_toArray, List.set_cons_zero, List.set_cons_succ, i64_w, i32_w]; rfl
    refine hpure 19 (some 69) 20 [] (v := ?_) (a' := ?_) s_ rfl rfl (by kernel_rfl) (Or.inl ⟨by rfl, ?_⟩) ?_ ?_
    rotate_left
    · intro w' s0; go_simp; with_reducible rfl
    rotate_left
    · simp only [Act.put, List.setIfInBounds_toArray, List.set_cons_zero, List.set_cons_succ, i64_w, i32_w]; rfl
    refine hpure 20 (some 70) 21 [] (v := ?_) (a' := ?_) s_ rfl rfl (by kernel_rfl) (Or.inl ⟨by rfl, ?_⟩) ?_ ?_
    rotate_left
    · intro w' s0; go_simp; with_reducible rfl
    rotate_left
    · simp only [Act.put, List.setIfInBounds_toArray, List.set_cons_zero, List.set_cons_succ, i64_w, i32_w]; rfl
    refine hpure 21 (some 71) 22 [] (v := ?_) (a' := ?_) s_ rfl rfl (by kernel_rfl) (Or.inl ⟨by rfl, ?_⟩) ?_ ?_
    rotate_left
    · intro w' s0; go_simp; with_reducible rfl
    rotate_left
    · simp only [Act.put, List.setIfInBounds_toArray, List.set_cons_zero, List.set_cons_succ, i64_w, i32_w]; rfl
    refine hpure 22 (some 72) 23 [] (v := ?_) (a' := ?_) s_ rfl rfl (by kernel_rfl) (Or.inl ⟨by rfl, ?_⟩) ?_ ?_
    rotate_left
    · intro w' s0; go_simp; with_reducible rfl
    rotate_left
    · simp only [Act.put, List.setIfInBounds_toArray, List.set_cons_zero, List.set_cons_succ, i64_w, i32_w]; rfl
    refine hpure 23 (some 73) 24 [] (v := ?_) (a' := ?_) s_ rfl rfl (by kernel_rfl) (Or.inl ⟨by rfl, ?_⟩) ?_ ?_
    rotate_left
    · intro w' s0; go_simp; with_reducible rfl
    rotate_left
    · simp only [Act.put, List.setIfInBounds_toArray, List.set_cons_zero, List.set_cons_succ, i64_w, i32_w]; rfl
    refine hpure 24 (some 74) 25 [] (v := ?_) (a' := ?_) s_ rfl rfl (by kernel_rfl) (Or.inl ⟨by rfl, ?_⟩) ?_ ?_
    rotate_left
    · intro w' s0; have s1 : (convert 29 9 (.slice Az x.length cz)).run Try.prog w' = .ok (.string (strOfNums x)) w' := Kd.C_string Try.underlying29 Try.underlying5 Try.underlying9 s0.1; go_simp; with_reducible rfl
    rotate_left
    · simp only [Act.put, List.setIfInBounds_toArray, List.set_cons_zero, List.set_cons_succ, i64_w, i32_w]; rfl
    refine hpure 25 (some 75) 26 [] (v := ?_) (a' := ?_) s_ rfl rfl (by kernel_rfl) (Or.inl ⟨by rfl, ?_⟩) ?_ ?_
    rotate_left
    · intro w' s0; go_simp; with_reducible rfl
    rotate_left
    · simp only [Act.put, List.setIfInBounds_toArray, List.set_cons_zero, List.set_cons_succ, i64_w, i32_w]; rfl
    refine hpure 26 (some 76) 27 [] (v := ?_) (a' := ?_) s_ rfl rfl (by kernel_rfl) (Or.inl ⟨by rfl, ?_⟩) ?_ ?_
    rotate_left
    · intro w' s0; have s1 : (convert 29 9 (.slice A x.length c)).run Try.prog w' = .ok (.string (strOfNums x)) w' := Kd.C_string Try.underlying29 Try.underlying5 Try.underlying9 s0.2; go_simp; with_reducible rfl
    rotate_left
    · simp only [Act.put, List.setIfInBounds_toArray, List.set_cons_zero, List.set_cons_succ, i64_w, i32_w]; rfl
    refine hpure 27 (some 77) 28 [] (v := ?_) (a' := ?_) s_ rfl rfl (by kernel_rfl) (Or.inl ⟨by rfl, ?_⟩) ?_ ?_
    rotate_left
    · intro w' s0; go_simp; with_reducible rfl
    rotate_left
    · simp only [Act.put, List.setIfInBounds_toArray, List.set_cons_zero, List.set_cons_succ, i64_w, i32_w]; rfl
    refine hpure 28 (some 78) 29 [] (v := ?_) (a' := ?_) s_ rfl rfl (by kernel_rfl) (Or.inl ⟨by rfl, ?_⟩) ?_ ?_
    rotate_left
    · intro w' s0; go_simp; with_reducible rfl
    rotate_left
    · simp only [Act.put, List.setIfInBounds_toArray, List.set_cons_zero, List.set_cons_succ, i64_w, i32_w]; rfl
    refine hdone (by kernel_rfl) ?_
    clear hCx hCa s_ hcutz
    go_wp2
    have HFB := Aside0.mk (fun k hk => HS6.out.at_.foot (k := k) hk)
    clear HS6
    generalize w7.heap.size = wb at HRz8 HFB
    go_loopg [13, 12] (z.length + 1) (fun kq v13 v12 w' => ∃ i m : Nat, v13 = .int .i64 (i : Int) ∧ v12 = .int .i64 (m : Int) ∧ Aside0 (z.length + 1 ≤ kq + i ∧ x.length ≤ i ∧ i ≤ z.length) ∧ Aside0 (m ≤ 1 ∧ (i < z.length → m = 0)) ∧ Aside0 (St W w' (crashD ⟨gd, bd, nb, vc2, -1, [(nF, g), (nG, g2)], [(nF, g)], [⟨0, nG, ⟨#[]⟩, some g2⟩], [⟨g, v2, x ++ y, (x.length : Int)⟩, ⟨g2, v3, y, 0⟩]⟩ dirP q nb1 nb2)) ∧ Aside0 (Kd.R (Kd.int .u8) 5 w' wb (fun _ => True) (.slice Az z.length cz) z))
    case atStart => exact ⟨x.length, 0, rfl, rfl, ⟨by omega⟩, ⟨by omega⟩, HS8, HRz8⟩
    case round =>
      clear HS8 HRz8
      obtain ⟨i, m, rfl, rfl, HI, HM, HS9, HR9⟩ := hrel
      obtain ⟨k1, rfl⟩ : ∃ k1, gk = k1 + 1 := ⟨gk - 1, by have := HI.out; omega⟩
      by_cases hi : i < z.length
      · have b3 : decide (i < z.length) = true := decide_eq_true hi
        have hm0 : m = 0 := HM.out.2 hi
        subst hm0
        obtain ⟨j, hj⟩ : ∃ j, j = i - x.length := ⟨_, rfl⟩
        have hjl : j < y.length := by have := HI.out; have := HZL.out; have := HNL.out; omega
        have e4 : IntKind.i64.wrap ((i : Int) - (x.length : Int)) = (j : Int) := by have := HI.out; have := HZL.out; have := HNL.out; have := HXL.out; have := HYL.out; rw [IntKind.wrap_i64]; omega
        obtain ⟨adz, hAz, hcz⟩ := Kd.at_int ((Kd.R_reads' HR9.out).2.2) (i : Int) (by omega) (by omega)
        subst hAz
        obtain ⟨ady, hAy, hcy⟩ := Kd.at_int (HS9.out.came HY.out).c (j : Int) (by omega) (by omega)
        subst hAy
        rw [Int.toNat_natCast] at hcz hcy
        have hgi := HZG.out i (by have := HZL.out; omega)
        have hxy : rd (x ++ y) (i : Int) = rd y (j : Int) := by
          unfold rd
          rw [Int.toNat_natCast, Int.toNat_natCast, List.getD_eq_getElem?_getD, List.getD_eq_getElem?_getD, List.getElem?_append_right (by have := HI.out; omega), hj]
        rw [hxy] at hgi
        have hwi : IntKind.i64.wrap ((i : Int) + 1) = ((i + 1 : Nat) : Int) := by have := HZL.out; have := HNL.out; have := HXL.out; have := HYL.out; rw [IntKind.wrap_i64]; omega
        have HI2 : Aside0 (z.length + 1 ≤ k1 + (i + 1) ∧ x.length ≤ i + 1 ∧ i + 1 ≤ z.length) := ⟨by have := HI.out; omega⟩
        have HJ := Aside0.mk hj
        have HXY := Aside0.mk hxy
        clear hj hxy
        go_wp2
        refine hstart (fun w' => w'.cell? (adz.add i) = some (.int .u8 (rd z (i : Int))) ∧ w'.cell? (ady.add j) = some (.int .u8 (rd y (j : Int)))) [] 12 (by kernel_rfl) rfl (by kernel_rfl) (⟨hcz, hcy⟩) (fun w_ hw_ s_ => ?_)
        have HS10 := Aside0.mk (show St W w_ _ from hw_ ▸ HS9.out.more (below_drew (Below.refl _ _)))
        have HR10 := Aside0.mk (show Kd.R (Kd.int .u8) 5 w_ wb (fun _ => True) (.slice (some adz) z.length cz) z from hw_ ▸ Kd.R_drew HR9.out)
        clear hw_ HS9 HR9 hcz hcy
        refine hpure 0 (some 87) 1 [] (v := ?_) (a' := ?_) s_ rfl rfl (by kernel_rfl) (Or.inl ⟨by rfl, ?_⟩) ?_ ?_
        rotate_left
        · intro w' s0; go_simp; with_reducible rfl
        rotate_left
        · simp only [Act.put, List.setIfInBounds_toArray, List.set_cons_zero, List.set_cons_succ, i64_w, i32_w]; rfl
        refine hpure 1 (some 88) 2 [] (v := ?_) (a' := ?_) s_ rfl rfl (by kernel_rfl) (Or.inl ⟨by rfl, ?_⟩) ?_ ?_
        rotate_left
        · intro w' s0; go_simp; with_reducible rfl
        rotate_left
        · simp only [Act.put, List.setIfInBounds_toArray, List.set_cons_zero, List.set_cons_succ, i64_w, i32_w]; rfl
        refine hpure 2 (some 89) 3 [] (v := ?_) (a' := ?_) s_ rfl rfl (by kernel_rfl) (Or.inl ⟨by rfl, ?_⟩) ?_ ?_
        rotate_left
        · intro w' s0; go_simp; with_reducible rfl
        rotate_left
        · simp only [Act.put, List.setIfInBounds_toArray, List.set_cons_zero, List.set_cons_succ, i64_w, i32_w]; rfl
        refine hpure 3 (some 90) 4 [] (v := ?_) (a' := ?_) s_ rfl rfl (by kernel_rfl) (Or.inl ⟨by rfl, ?_⟩) ?_ ?_
        rotate_left
        · intro w' s0; have s1 := s0.1; go_simp; with_reducible rfl
        rotate_left
        · simp only [Act.put, List.setIfInBounds_toArray, List.set_cons_zero, List.set_cons_succ, i64_w, i32_w]; rfl
        refine hpure 4 (some 91) 5 [] (v := ?_) (a' := ?_) s_ rfl rfl (by kernel_rfl) (Or.inl ⟨by rfl, ?_⟩) ?_ ?_
        rotate_left
        · intro w' s0; go_simp; with_reducible rfl
        rotate_left
        · simp only [Act.put, List.setIfInBounds_toArray, List.set_cons_zero, List.set_cons_succ, i64_w, i32_w]; rfl
        refine hpure 5 (some 92) 6 [] (v := ?_) (a' := ?_) s_ rfl rfl (by kernel_rfl) (Or.inl ⟨by rfl, ?_⟩) ?_ ?_
        rotate_left
        · intro w' s0; go_simp; with_reducible rfl
        rotate_left
        · simp only [Act.put, List.setIfInBounds_toArray, List.set_cons_zero, List.set_cons_succ, i64_w, i32_w]; rfl
        refine hpure 6 (some 93) 7 [] (v := ?_) (a' := ?_) s_ rfl rfl (by kernel_rfl) (Or.inl ⟨by rfl, ?_⟩) ?_ ?_
        rotate_left
        · intro w' s0; go_simp; with_reducible rfl
        rotate_left
        · simp only [Act.put, List.setIfInBounds_toArray, List.set_cons_zero, List.set_cons_succ, i64_w, i32_w]; rfl
        refine hpure 7 (some 94) 8 [] (v := ?_) (a' := ?_) s_ rfl rfl (by kernel_rfl) (Or.inl ⟨by rfl, ?_⟩) ?_ ?_
        rotate_left
        · intro w' s0; go_simp; with_reducible rfl
        rotate_left
        · simp only [Act.put, List.setIfInBounds_toArray, List.set_cons_zero, List.set_cons_succ, i64_w, i32_w]; rfl
        refine hpure 8 (some 95) 9 [] (v := ?_) (a' := ?_) s_ rfl rfl (by kernel_rfl) (Or.inl ⟨by rfl, ?_⟩) ?_ ?_
        rotate_left
        · intro w' s0; go_simp; with_reducible rfl
        rotate_left
        · simp only [Act.put, List.setIfInBounds_toArray, List.set_cons_zero, List.set_cons_succ, i64_w, i32_w]; rfl
        refine hpure 9 (some 96) 10 [] (v := ?_) (a' := ?_) s_ rfl rfl (by kernel_rfl) (Or.inl ⟨by rfl, ?_⟩) ?_ ?_
        rotate_left
        · intro w' s0; go_simp; with_reducible rfl
        rotate_left
        · simp only [Act.put, List.setIfInBounds_toArray, List.set_cons_zero, List.set_cons_succ, i64_w, i32_w]; rfl
        refine hpure 10 (some 97) 11 [] (v := ?_) (a' := ?_) s_ rfl rfl (by kernel_rfl) (Or.inl ⟨by rfl, ?_⟩) ?_ ?_
        rotate_left
        · intro w' s0; have s1 := s0.2; go_simp; with_reducible rfl
        rotate_left
        · simp only [Act.put, List.setIfInBounds_toArray, List.set_cons_zero, List.set_cons_succ, i64_w, i32_w]; rfl
        refine hpure 11 (some 98) 12 [] (v := ?_) (a' := ?_) s_ rfl rfl (by kernel_rfl) (Or.inl ⟨by rfl, ?_⟩) ?_ ?_
        rotate_left
        · intro w' s0; go_simp; with_reducible rfl
        rotate_left
        · simp only [Act.put, List.setIfInBounds_toArray, List.set_cons_zero, List.set_cons_succ, i64_w, i32_w]; rfl
        refine hdone (by kernel_rfl) ?_
        by_cases hne : rd z (i : Int) = rd y (j : Int)
        · have b4 : (rd z (i : Int) == rd y (j : Int)) = true := beq_iff_eq.2 hne
          clear hgi hne s_
          go_wp2
          go_roundg k1
          case measure => omega
          case rel => exact ⟨i + 1, 0, by first | rfl | (rw [hwi]; done) | (simp [hwi]; done), rfl, HI2, ⟨by omega⟩, HS10, HR10⟩
        · have hg2 := hgi.resolve_left hne
          have b4 : (rd z (i : Int) == rd y (j : Int)) = false := beq_eq_false_iff_ne.mpr hne
          have e5 : IntKind.i64.wrap ((z.length : Int) - 1) = (i : Int) := by have := HZL.out; have := hg2.1; have := HNL.out; have := HXL.out; have := HYL.out; rw [IntKind.wrap_i64]; omega
          have b5 : (rd z (i : Int) == bits .xor .u8 (rd y (j : Int)) 85) = true := beq_iff_eq.2 hg2.2
          have hil : ¬ i + 1 < z.length := by have := HZL.out; have := hg2.1; omega
          obtain ⟨hcz, hcy⟩ := s_
          clear hgi hne hg2
          go_upto_region 23 with (fail)
          refine hstart (fun w' => w'.cell? (adz.add i) = some (.int .u8 (rd z (i : Int))) ∧ w'.cell? (ady.add j) = some (.int .u8 (rd y (j : Int)))) [] 20 (by kernel_rfl) rfl (by kernel_rfl) (⟨hcz, hcy⟩) (fun w_ hw_ s_ => ?_)
          have HS11 := Aside0.mk (show St W w_ _ from hw_ ▸ HS10.out.more (below_drew (Below.refl _ _)))
          have HR11 := Aside0.mk (show Kd.R (Kd.int .u8) 5 w_ wb (fun _ => True) (.slice (some adz) z.length cz) z from hw_ ▸ Kd.R_drew HR10.out)
          clear hw_ HS10 HR10 hcz hcy
          refine hpure 0 (some 101) 1 [] (v := ?_) (a' := ?_) s_ rfl rfl (by kernel_rfl) (Or.inl ⟨by rfl, ?_⟩) ?_ ?_
          rotate_left
          · intro w' s0; go_simp; with_reducible rfl
          rotate_left
          · simp only [Act.put, List.setIfInBounds_toArray, List.set_cons_zero, List.set_cons_succ, i64_w, i32_w]; rfl
          refine hpure 1 (some 102) 2 [] (v := ?_) (a' := ?_) s_ rfl rfl (by kernel_rfl) (Or.inl ⟨by rfl, ?_⟩) ?_ ?_
          rotate_left
          · intro w' s0; go_simp; with_reducible rfl
          rotate_left
          · simp only [Act.put, List.setIfInBounds_toArray, List.set_cons_zero, List.set_cons_succ, i64_w, i32_w]; rfl
          refine hpure 2 (some 103) 3 [] (v := ?_) (a' := ?_) s_ rfl rfl (by kernel_rfl) (Or.inl ⟨by rfl, ?_⟩) ?_ ?_
          rotate_left
          · intro w' s0; go_simp; with_reducible rfl
          rotate_left
          · simp only [Act.put, List.setIfInBounds_toArray, List.set_cons_zero, List.set_cons_succ, i64_w, i32_w]; rfl
          refine hpure 3 (some 104) 4 [] (v := ?_) (a' := ?_) s_ rfl rfl (by kernel_rfl) (Or.inl ⟨by rfl, ?_⟩) ?_ ?_
          rotate_left
          · intro w' s0; go_simp; with_reducible rfl
          rotate_left
          · simp only [Act.put, List.setIfInBounds_toArray, List.set_cons_zero, List.set_cons_succ, i64_w, i32_w]; rfl
          refine hpure 4 (some 105) 5 [] (v := ?_) (a' := ?_) s_ rfl rfl (by kernel_rfl) (Or.inl ⟨by rfl, ?_⟩) ?_ ?_
          rotate_left
          · intro w' s0; go_simp; with_reducible rfl
          rotate_left
          · simp only [Act.put, List.setIfInBounds_toArray, List.set_cons_zero, List.set_cons_succ, i64_w, i32_w]; rfl
          refine hpure 5 (some 106) 6 [] (v := ?_) (a' := ?_) s_ rfl rfl (by kernel_rfl) (Or.inl ⟨by rfl, ?_⟩) ?_ ?_
          rotate_left
          · intro w' s0; go_simp; with_reducible rfl
          rotate_left
          · simp only [Act.put, List.setIfInBounds_toArray, List.set_cons_zero, List.set_cons_succ, i64_w, i32_w]; rfl
          refine hpure 6 (some 107) 7 [] (v := ?_) (a' := ?_) s_ rfl rfl (by kernel_rfl) (Or.inl ⟨by rfl, ?_⟩) ?_ ?_
          rotate_left
          · intro w' s0; go_simp; with_reducible rfl
          rotate_left
          · simp only [Act.put, List.setIfInBounds_toArray, List.set_cons_zero, List.set_cons_succ, i64_w, i32_w]; rfl
          refine hpure 7 (some 108) 8 [] (v := ?_) (a' := ?_) s_ rfl rfl (by kernel_rfl) (Or.inl ⟨by rfl, ?_⟩) ?_ ?_
          rotate_left
          · intro w' s0; go_simp; with_reducible rfl
          rotate_left
          · simp only [Act.put, List.setIfInBounds_toArray, List.set_cons_zero, List.set_cons_succ, i64_w, i32_w]; rfl
          refine hpure 8 (some 109) 9 [] (v := ?_) (a' := ?_) s_ rfl rfl (by kernel_rfl) (Or.inl ⟨by rfl, ?_⟩) ?_ ?_
          rotate_left
          · intro w' s0; go_simp; with_reducible rfl
          rotate_left
          · simp only [Act.put, List.setIfInBounds_toArray, List.set_cons_zero, List.set_cons_succ, i64_w, i32_w]; rfl
          refine hpure 9 (some 110) 10 [] (v := ?_) (a' := ?_) s_ rfl rfl (by kernel_rfl) (Or.inl ⟨by rfl, ?_⟩) ?_ ?_
          rotate_left
          · intro w' s0; have s1 := s0.1; go_simp; with_reducible rfl
          rotate_left
          · simp only [Act.put, List.setIfInBounds_toArray, List.set_cons_zero, List.set_cons_succ, i64_w, i32_w]; rfl
          refine hpure 10 (some 111) 11 [] (v := ?_) (a' := ?_) s_ rfl rfl (by kernel_rfl) (Or.inl ⟨by rfl, ?_⟩) ?_ ?_
          rotate_left
          · intro w' s0; go_simp; with_reducible rfl
          rotate_left
          · simp only [Act.put, List.setIfInBounds_toArray, List.set_cons_zero, List.set_cons_succ, i64_w, i32_w]; rfl
          refine hpure 11 (some 112) 12 [] (v := ?_) (a' := ?_) s_ rfl rfl (by kernel_rfl) (Or.inl ⟨by rfl, ?_⟩) ?_ ?_
          rotate_left
          · intro w' s0; go_simp; with_reducible rfl
          rotate_left
          · simp only [Act.put, List.setIfInBounds_toArray, List.set_cons_zero, List.set_cons_succ, i64_w, i32_w]; rfl
          refine hpure 12 (some 113) 13 [] (v := ?_) (a' := ?_) s_ rfl rfl (by kernel_rfl) (Or.inl ⟨by rfl, ?_⟩) ?_ ?_
          rotate_left
          · intro w' s0; go_simp; with_reducible rfl
          rotate_left
          · simp only [Act.put, List.setIfInBounds_toArray, List.set_cons_zero, List.set_cons_succ, i64_w, i32_w]; rfl
          refine hpure 13 (some 114) 14 [] (v := ?_) (a' := ?_) s_ rfl rfl (by kernel_rfl) (Or.inl ⟨by rfl, ?_⟩) ?_ ?_
          rotate_left
          · intro w' s0; go_simp; with_reducible rfl
          rotate_left
          · simp only [Act.put, List.setIfInBounds_toArray, List.set_cons_zero, List.set_cons_succ, i64_w, i32_w]; rfl
          refine hpure 14 (some 115) 15 [] (v := ?_) (a' := ?_) s_ rfl rfl (by kernel_rfl) (Or.inl ⟨by rfl, ?_⟩) ?_ ?_
          rotate_left
          · intro w' s0; go_simp; with_reducible rfl
          rotate_left
          · simp only [Act.put, List.setIfInBounds_toArray, List.set_cons_zero, List.set_cons_succ, i64_w, i32_w]; rfl
          refine hpure 15 (some 116) 16 [] (v := ?_) (a' := ?_) s_ rfl rfl (by kernel_rfl) (Or.inl ⟨by rfl, ?_⟩) ?_ ?_
          rotate_left
          · intro w' s0; go_simp; with_reducible rfl
          rotate_left
          · simp only [Act.put, List.setIfInBounds_toArray, List.set_cons_zero, List.set_cons_succ, i64_w, i32_w]; rfl
          refine hpure 16 (some 117) 17 [] (v := ?_) (a' := ?_) s_ rfl rfl (by kernel_rfl) (Or.inl ⟨by rfl, ?_⟩) ?_ ?_
          rotate_left
          · intro w' s0; have s1 := s0.2; go_simp; with_reducible rfl
          rotate_left
          · simp only [Act.put, List.setIfInBounds_toArray, List.set_cons_zero, List.set_cons_succ, i64_w, i32_w]; rfl
          refine hpure 17 (some 118) 18 [] (v := ?_) (a' := ?_) s_ rfl rfl (by kernel_rfl) (Or.inl ⟨by rfl, ?_⟩) ?_ ?_
          rotate_left
          · intro w' s0; go_simp; with_reducible rfl
          rotate_left
          · simp only [Act.put, List.setIfInBounds_toArray, List.set_cons_zero, List.set_cons_succ, i64_w, i32_w]; rfl
          refine hpure 18 (some 119) 19 [] (v := ?_) (a' := ?_) s_ rfl rfl (by kernel_rfl) (Or.inl ⟨by rfl, ?_⟩) ?_ ?_
          rotate_left
          · intro w' s0; go_simp; with_reducible rfl
          rotate_left
          · simp only [Act.put, List.setIfInBounds_toArray, List.set_cons_zero, List.set_cons_succ, i64_w, i32_w]; rfl
          refine hpure 19 (some 120) 20 [] (v := ?_) (a' := ?_) s_ rfl rfl (by kernel_rfl) (Or.inl ⟨by rfl, ?_⟩) ?_ ?_
          rotate_left
          · intro w' s0; go_simp; with_reducible rfl
          rotate_left
          · simp only [Act.put, List.setIfInBounds_toArray, List.set_cons_zero, List.set_cons_succ, i64_w, i32_w]; rfl
          refine hdone (by kernel_rfl) ?_
          go_wp2
          go_roundg k1
          case measure => omega
          case rel => exact ⟨i + 1, 1, by first | rfl | (rw [hwi]; done) | (simp [hwi]; done), rfl, HI2, ⟨⟨Nat.le_refl _, fun h => absurd h hil⟩⟩, HS11, HR11⟩
      · have b3 : decide (i < z.length) = false := decide_eq_false hi
        have hok2 : ∀ p ∈ dirP, ∃ f ∈ fsD q (dirP.map (·.2)) [⟨g, v2, x ++ y, (x.length : Int)⟩, ⟨g2, v3, y, 0⟩], f.g = p.2 := fun p hp => by
          obtain ⟨f, hf, hfg⟩ := HCS.out.1 p hp
          exact ⟨_, List.mem_map.2 ⟨f, hf, rfl⟩, by rw [← hfg]; split <;> rfl⟩
        have hsf2 : ∀ f ∈ fsD q (dirP.map (·.2)) [⟨g, v2, x ++ y, (x.length : Int)⟩, ⟨g2, v3, y, 0⟩], 0 ≤ f.safe ∧ f.safe ≤ f.bs.length ∧ f.bs.length ≤ 1000000000000 := fun f hf => by
          obtain ⟨f1, hf1, rfl⟩ := List.mem_map.1 hf
          have h1 := HSF.out f1 hf1
          split
          · have h2 : f1.safe.toNat ≤ f1.bs.length := by omega
            have h3 := crF_safe (q := q) h2
            have h4 := nOf_le (q := q) h2
            have h5 : (crF q f1).bs.length = nOf q f1 := crB_len h2
            exact ⟨by rw [h3]; omega, by rw [h3]; omega, by omega⟩
          · exact h1
        have h8 := Lib.hid (stCrashK HS9.out again P2 HP2.out HPB2.out (Nat.zero_le _) (show runM dirP [] = some dirP from rfl) (dirP := dirP) (by rw [show (crashD ⟨gd, bd, nb, vc2, -1, [(nF, g), (nG, g2)], [(nF, g)], [⟨0, nG, ⟨#[]⟩, some g2⟩], [⟨g, v2, x ++ y, (x.length : Int)⟩, ⟨g2, v3, y, 0⟩]⟩ dirP q nb1 nb2).chg = [] from rfl, List.take_nil]; rfl) hok2 HCS.out.2.1 hsf2)
        clear hok2 hsf2
        go_upto_region 26 with (go_at_call 18; refine h8.out.mono ?_; rintro e wc ⟨rfl, hK, nb3, nb4, hS⟩; have HSc := Aside0.mk hS; have HKc := Aside0.mk hK; clear hS hK)
        have HRc := Aside0.mk (show Kd.R (Kd.int .u8) 5 wc wb (fun _ => True) (.slice Az z.length cz) z from Kd.R_mono (Kd.R_move (Kd.R_tight rfl HR9.out) (fun k hk => HKc.out.2 k (Kd.R_lt HR9.out k hk.symm) (fun hF => by have h1 := Kd.R_base HR9.out k hk.symm; have h2 := HFB.out k hF; omega))) (fun _ _ => trivial))
        have hfm2 : crF (P2 / (([] : List Chg).length + 1)) (crF q ⟨g, v2, x ++ y, (x.length : Int)⟩) ∈ fsD (P2 / (([] : List Chg).length + 1)) (dirP.map (·.2)) (fsD q (dirP.map (·.2)) [⟨g, v2, x ++ y, (x.length : Int)⟩, ⟨g2, v3, y, 0⟩]) := List.mem_map.2 ⟨_, HFM.out, if_pos HCS.out.2.2.2⟩
        have hb2 : (crF (P2 / (([] : List Chg).length + 1)) (crF q ⟨g, v2, x ++ y, (x.length : Int)⟩)).bs = z := by rw [HZ.out]; exact crB_again HSL.out
        have h9 := Lib.hid (readOk HSc.out.at_ nF hfm2 (find_of badF HCS.out.2.2.1) (by rw [hb2, HZL.out]; have := HNL.out; have := HXL.out; have := HYL.out; omega))
        rw [hb2] at h9
        go_upto_region 27 with (go_at_call 14; refine h9.out.mono ?_; rintro e wd ⟨v9, rfl, hR, hb⟩; obtain ⟨Ad, cd, e9, hcd, hCd⟩ := Kd.R_reads hR; subst e9; have hv1 : (convert 29 9 (.slice Ad z.length cd)).run Try.prog wd = .ok (.string (strOfNums z)) wd := Kd.C_string Try.underlying29 Try.underlying5 Try.underlying9 hCd; have hv2 : (convert 29 9 (.slice Az z.length cz)).run Try.prog wd = .ok (.string (strOfNums z)) wd := Kd.C_string Try.underlying29 Try.underlying5 Try.underlying9 (Kd.C_below (Kd.R_reads' HRc.out).2.2 hb); have HBd := Aside0.mk ((HSc.out.more hb).kept); clear hR hb hCd hcd)
        have b6 : decide ((m : Int) ≤ 1) = true := decide_eq_true (by have := HM.out; omega)
        have hKn := knownC wd
        go_wp2_with (go_at_call 15; refine hKn.mono ?_; rintro e w9 ⟨rfl, hb⟩; have HBk := Aside0.mk hb; clear hb)
        go_ret
        exact ⟨rfl, HBd.out.below HBk.out |>.toBelow (fun _ h => h.elim)⟩
end Go.Proofs.Ytoninmgglcepmaa.Dk
