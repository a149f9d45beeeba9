/- DiskRoom: the walk. -/
import Derived.Test.YtoninmgglcepmaaD10
namespace Go.Proofs.Ytoninmgglcepmaa.Dk
open RegD Go.RowKit Go.ChangeMaps Go.Proofs.YtoninmgglcepmaaW.PrintWords Go.Proofs.YtoninmgglcepmaaW.PrintLast Go.Proofs.YtoninmgglcepmaaW.PrintMore Mp
attribute [local go_sem] max2_int min2_int max_two min_two max_three min_three max_four min_four
set_option linter.unusedVariables false
set_option linter.unusedSimpArgs false
theorem withinC (n H : Int) (h0 : 0 ≤ H) (h1 : H ≤ 1000000) (w : World) : Calls Try.prog 10 #[.int .i64 n, .int .i64 0, .int .i64 H] w fun e w' => ∃ m : Nat, e = .returned (.int .i64 (m : Int)) ∧ (m : Int) ≤ H ∧ w = w' := by
  obtain ⟨t, ht⟩ : ∃ t, t = n.tmod (H + 1) := ⟨_, rfl⟩
  have ht1 : t < H + 1 := by rw [ht]; exact Int.tmod_lt_of_pos _ (by omega)
  have ht2 : -(H + 1) < t := by
    rw [ht]
    have := Int.lt_tmod_of_pos n (b := H + 1) (by omega)
    omega
  have e1 : IntKind.i64.wrap (H + 1) = H + 1 := by rw [IntKind.wrap_i64]; omega
  have e0 : IntKind.i64.wrap H = H := by rw [IntKind.wrap_i64]; omega
  have e2 : n.tmod (H + 1) = t := ht.symm
  have e4 : (H + 1 = 0) = False := eq_false (by omega)
  by_cases hneg : t < 0
  · have hb : decide (t < 0) = true := decide_eq_true hneg
    have e5 : IntKind.i64.wrap (t + H) = t + H := by rw [IntKind.wrap_i64]; omega
    obtain ⟨m, hm⟩ := Int.eq_ofNat_of_zero_le (show 0 ≤ t + H + 1 by omega)
    have e6 : IntKind.i64.wrap (t + H + 1) = (m : Int) := by rw [IntKind.wrap_i64]; omega
    have e7 : IntKind.i64.wrap (m : Int) = (m : Int) := by rw [IntKind.wrap_i64]; omega
    have hmH : (m : Int) ≤ H := by omega
    clear ht hneg ht1 ht2 hm
    go_enter Try.func10, Try.ntmps10
    go_wp2
    go_ret
    exact ⟨m, rfl, hmH, rfl⟩
  · have hb : decide (t < 0) = false := decide_eq_false hneg
    obtain ⟨m, hm⟩ := Int.eq_ofNat_of_zero_le (show 0 ≤ t by omega)
    subst hm
    have e7 : IntKind.i64.wrap (m : Int) = (m : Int) := by rw [IntKind.wrap_i64]; omega
    have hmH : (m : Int) ≤ H := by omega
    clear ht hneg ht1 ht2
    go_enter Try.func10, Try.ntmps10
    go_wp2
    go_ret
    exact ⟨m, rfl, hmH, rfl⟩
/-- The disk of DiskRoom. -/
structure Room (d : DSt) (size left : Nat) : Prop where
  quota : d.quota = (left : Int)
  few : left ≤ 500 ∧ size ≤ 500
  chg : d.chg.length ≤ 1
  file : (d.dir = [] ∧ d.fs = [] ∧ size = 0 ∧ d.chg = []) ∨ ∃ g v bs, d.dir = [(⟨#[102]⟩, g)] ∧ d.fs = [⟨g, v, bs, 0⟩] ∧ bs.length = size
theorem Room.small {d : DSt} {size left : Nat} (h : Room d size left) : Small d := by
  have hq := h.quota
  have hf := h.few
  have hc := h.chg
  rcases h.file with ⟨h1, h2, h3, h4⟩ | ⟨g, v, bs, h1, h2, h3⟩
  · exact ⟨fun p hp => (by rw [h1] at hp; cases hp), fun f hf => (by rw [h2] at hf; cases hf), by rw [h1]; exact Nat.zero_le _, by omega, by omega⟩
  · exact ⟨fun p hp => (by rw [h1] at hp; rw [h2]; obtain rfl := List.mem_singleton.1 hp; exact ⟨_, List.mem_singleton.2 rfl, rfl⟩), fun f hf => (by rw [h2] at hf; obtain rfl := List.mem_singleton.1 hf; simp only; omega), by rw [h1]; exact Nat.le_add_left _ _, by omega, by omega⟩
theorem roomApp {w0 w : World} {d : DSt} (h : St w0 w d) {size left k : Nat} (hr : Room d size left) (hk : k ≤ 120) (hsz : size + left ≤ 500) {A : Option Addr} (hb : Bytes w d A (List.replicate k 0)) :
    Calls Try.prog 13 #[.pointer (some ⟨d.gd, 0, none⟩), .string ⟨#[102]⟩, .slice A k k] w fun e w' => (k ≤ left ∧ e = .returned (.int .i64 0) ∧ ∃ d', d'.gd = d.gd ∧ St w0 w' d' ∧ Room d' (size + k) (left - k)) ∨ (left < k ∧ e = .returned (.int .i64 13) ∧ St w0 w' d) := by
  have hs := hr.small
  have hq := hr.quota
  have hf := hr.few
  have hl : (List.replicate k (0 : Int)).length = k := List.length_replicate
  by_cases hkl : k ≤ left
  · have hz : appE d ⟨#[102]⟩ (List.replicate k (0 : Int)).length = 0 := hs.zero (by rw [hl]; omega) (by decide +kernel) (.inr (by rw [hl, hq]; omega))
    have hnq : newQ d (List.replicate k (0 : Int)).length = ((left - k : Nat) : Int) := by unfold newQ; rw [if_pos (by rw [hq]; omega), hl, hq]; omega
    rcases hr.file with ⟨h1, h2, h3, h4⟩ | ⟨g, v, bs, h1, h2, h3⟩
    · have := appNew (cp := k) h (hs.fit (n := (List.replicate k (0 : Int)).length) (by rw [hl]; omega)) hb hz (by rw [h1]; rfl)
      rw [hl] at this
      refine this.mono ?_
      rintro e w' ⟨rfl, g, v1, vch1, hg, hS⟩
      refine .inl ⟨hkl, rfl, addF d ⟨#[102]⟩ (List.replicate k 0) g v1 vch1, rfl, hS, ⟨by rw [← hnq]; rfl, by omega, ?_, .inr ⟨g, v1, List.replicate k 0, ?_, ?_, ?_⟩⟩⟩
      · show (d.chg ++ [_]).length ≤ 1
        rw [h4]; exact Nat.le_refl _
      · show putM d.dir _ g = _
        rw [h1]; rfl
      · show d.fs ++ [_] = _
        rw [h2]; rfl
      · rw [hl]; omega
    · have := appOld (cp := k) h (hs.fit (n := (List.replicate k (0 : Int)).length) (by rw [hl]; omega)) hb hz (f := ⟨g, v, bs, 0⟩) (by rw [h2]; exact List.mem_singleton.2 rfl) (by rw [h1]; simp [getM])
      rw [hl] at this
      refine this.mono ?_
      rintro e w' ⟨rfl, v1, hS⟩
      refine .inl ⟨hkl, rfl, growF d ⟨g, v, bs, 0⟩ (List.replicate k 0) v1, rfl, hS, ⟨by rw [← hnq]; rfl, by omega, hr.chg, .inr ⟨g, v1, bs ++ List.replicate k 0, h1, ?_, by rw [List.length_append, hl, h3]⟩⟩⟩
      show updF d.fs g _ = _
      rw [h2]
      simp [updF]
  · have hz : appE d ⟨#[102]⟩ (List.replicate k (0 : Int)).length = 13 := hs.full (by rw [hl]; omega) (by decide +kernel) (by rw [hl, hq]; omega)
    have := appNo (cp := k) h (hs.fit (n := (List.replicate k (0 : Int)).length) (by rw [hl]; omega)) hb (by rw [hz]; decide)
    rw [hz, hl] at this
    refine this.mono ?_
    rintro e w' ⟨rfl, hS⟩
    exact .inr ⟨by omega, rfl, hS⟩
theorem roomRead {w0 w : World} {d : DSt} (h : St w0 w d) {size left : Nat} (hr : Room d size left) : Calls Try.prog 14 #[.pointer (some ⟨d.gd, 0, none⟩), .string ⟨#[102]⟩] w fun e w' => ∃ A c i, e = .returned (.tuple #[.slice A size c, .int .i64 i]) ∧ St w0 w' d := by
  rcases hr.file with ⟨h1, h2, h3, h4⟩ | ⟨g, v, bs, h1, h2, h3⟩
  · refine (readNo h.at_ ⟨#[102]⟩ (by unfold findR; rw [if_neg (by decide +kernel), h1]; rfl)).mono ?_
    rintro e w' ⟨rfl, hb⟩
    exact ⟨none, 0, _, by rw [h3], h.more hb⟩
  · refine (readOk h.at_ ⟨#[102]⟩ (f := ⟨g, v, bs, 0⟩) (by rw [h2]; exact List.mem_singleton.2 rfl) (find_of (by decide +kernel) (by rw [h1]; simp [getM])) (by have := hr.few; simp only; omega)).mono ?_
    rintro e w' ⟨v5, rfl, hR, hb⟩
    obtain ⟨A, c, e5⟩ := Kd.R_slice hR
    exact ⟨A, c, 0, by rw [e5, ← h3], h.more hb⟩
theorem within500 (n : Int) (w : World) : Calls Try.prog 10 #[.int .i64 n, .int .i64 0, .int .i64 500] w fun e w' => ∃ m : Nat, e = .returned (.int .i64 (m : Int)) ∧ (m : Int) ≤ 500 ∧ w = w' := withinC n 500 (by decide) (by decide) w
theorem within120 (n : Int) (w : World) : Calls Try.prog 10 #[.int .i64 n, .int .i64 0, .int .i64 120] w fun e w' => ∃ m : Nat, e = .returned (.int .i64 (m : Int)) ∧ (m : Int) ≤ 120 ∧ w = w' := withinC n 120 (by decide) (by decide) w
theorem made_at (k j : Nat) (hj : j < (List.replicate k (0 : Int)).length) : (madeCells #[.int .u8 0] k)[j]? = some (.int .u8 ((List.replicate k (0 : Int)).getD j 0)) := by
  rw [List.length_replicate] at hj
  have h0 : (List.replicate k (0 : Int)).getD j 0 = 0 := by simp [List.getD_eq_getElem?_getD, hj]
  rw [h0]
  have h1 : j % 1 = 0 := Nat.mod_one j
  simp [madeCells, hj, h1]
set_option maxHeartbeats 8000000 in
set_option maxRecDepth 100000 in
theorem roomW (W : World) (n : Int) (wn : (Lit.int .i64 n).wf = true) (A : Option Addr) (c : Nat) (l : List Int) (hr : Kd.C (Kd.int .i64) W A l.length l) (hc : l.length ≤ c) (hm : l.length ≤ maxLen) (hw : ∀ x ∈ l, (Lit.int .i64 x).wf = true) (hy : l.length * 8 ≤ 140737488351232) :
    Calls Try.prog 3 #[.int .i64 n, .slice A l.length c] W fun e w' => e = .returned (.bool true) ∧ Below W.heap.size W w' := by
  have HR := Aside0.mk hr
  have HY := Aside0.mk hy
  have hm0 := hm
  clear wn hr hc hm hw hy
  have hwt := within500 n W
  go_enter Try.func3, Try.ntmps3
  go_upto_region 5 with (first
    | (go_at_call 10; refine hwt.mono ?_; rintro e w0 ⟨m, rfl, hm, rfl⟩; have HM := Aside0.mk hm; have hN := Lib.hid (stNew W); clear hm)
    | (go_at_call 11; refine hN.out.mono ?_; rintro e w1 ⟨gd, bd, bs, vch, rfl, hS⟩; have HS := Aside0.mk hS; clear hS))
  have hQ := Lib.hid (stQuota HS.out (m : Int))
  go_wp2_with (go_at_call 12; refine hQ.out.mono ?_; rintro e w2 ⟨rfl, hS⟩; have HS2 : Aside0 (St W w2 ⟨gd, bd, bs, vch, (m : Int), [], [], [], []⟩) := ⟨hS⟩; clear hS)
  go_loopg [8, 6, 7] (l.length + 1) (fun kq v8 v6 v7 w' => ∃ (i left size : Nat) (d : DSt), v8 = .int .i64 (i : Int) ∧ v6 = .int .i64 (left : Int) ∧ v7 = .int .i64 (size : Int) ∧ Aside0 (l.length + 1 ≤ kq + i ∧ i ≤ l.length) ∧ Aside0 (size + left ≤ 500) ∧ Aside0 (d.gd = gd) ∧ Aside0 (Room d size left) ∧ Aside0 (St W w' d))
  case atStart => exact ⟨0, m, 0, ⟨gd, bd, bs, vch, (m : Int), [], [], [], []⟩, rfl, rfl, rfl, ⟨by omega⟩, ⟨by have := HM.out; omega⟩, ⟨rfl⟩, ⟨⟨rfl, by have := HM.out; omega, Nat.zero_le _, .inl ⟨rfl, rfl, rfl, rfl⟩⟩⟩, HS2⟩
  case round =>
    clear HS2 hQ HS hN hwt
    obtain ⟨i, left, size, d, rfl, rfl, rfl, HI, HSL, HG, HRm, HSt⟩ := hrel
    obtain ⟨k1, rfl⟩ : ∃ k1, gk = k1 + 1 := ⟨gk - 1, by have := HI.out; omega⟩
    obtain ⟨hg⟩ := HG
    subst hg
    by_cases hi : i < l.length ∧ i < 20
    · have b1 : decide (i < l.length) = true := decide_eq_true hi.1
      have b2 : decide ((i : Int) < 20) = true := decide_eq_true (by omega)
      obtain ⟨ad, hA, hcell⟩ := Kd.at_int (Kd.C_below HR.out HSt.out.below) (i : Int) (by omega) (by omega)
      subst hA
      rw [Int.toNat_natCast] at hcell
      generalize rd l (i : Int) = x at hcell
      have hwx := within120 x wr
      have HIL := Aside0.mk hi
      have hil := hi.1
      clear hi
      go_upto_region 12 with (go_at_call 10; refine hwx.mono ?_; rintro e w3 ⟨k, rfl, hk, rfl⟩; have HK := Aside0.mk hk; clear hk)
      have hmk := print_make (P := Try.prog) 29 5 .u8 1 Try.underlying29 info5 (by decide) k (by have := HK.out; omega)
      have hSa := HSt.out.alloc (.cells (madeCells #[.int .u8 0] k) 5)
      have hA := roomApp hSa HRm.out (k := k) (by have := HK.out; omega) HSL.out (bytes_new HSt.out (fun j hj => made_at k j hj) (by rw [List.length_replicate]; have := HK.out; unfold maxLen; omega))
      have hwi : IntKind.i64.wrap ((i : Int) + 1) = ((i + 1 : Nat) : Int) := by have := HIL.out; rw [IntKind.wrap_i64]; omega
      have HI2 : Aside0 (l.length + 1 ≤ k1 + (i + 1) ∧ i + 1 ≤ l.length) := ⟨by have := HI.out; have := HIL.out; omega⟩
      clear hwx hcell b1 b2 hSa hil
      by_cases hkl : k ≤ left
      · have b3 : decide (k ≤ left) = true := decide_eq_true hkl
        obtain ⟨L, hL⟩ : ∃ L, L = left - k := ⟨_, rfl⟩
        have e1 : IntKind.i64.wrap ((left : Int) - (k : Int)) = (L : Int) := by have := HSL.out; rw [IntKind.wrap_i64]; omega
        have e2 : IntKind.i64.wrap ((size : Int) + (k : Int)) = ((size + k : Nat) : Int) := by have := HSL.out; rw [IntKind.wrap_i64]; omega
        have HSL2 : Aside0 (size + k + L ≤ 500) := ⟨by have := HSL.out; omega⟩
        have hA2 := Lib.hid (hA.mono (R' := fun e w' => e = .returned (.int .i64 0) ∧ ∃ d', d'.gd = d.gd ∧ St W w' d' ∧ Room d' (size + k) L) (by
          rintro e w' (⟨_, h2, d', h3, h4, h5⟩ | ⟨h1, _⟩)
          · exact ⟨h2, d', h3, h4, hL ▸ h5⟩
          · omega))
        clear hA hL hkl
        go_upto_region 18 with (go_at_call 13; refine hA2.out.mono ?_; rintro e w3 ⟨rfl, d', hg', hS, hRo⟩; have HS' := Aside0.mk hS; have HR' := Aside0.mk hRo; have HG' := Aside0.mk hg'; clear hS hRo hg')
        have hRd := Lib.hid (HG'.out ▸ roomRead HS'.out HR'.out)
        go_wp2_with (go_at_call 14; refine hRd.out.mono ?_; rintro e w4 ⟨A5, c5, j5, rfl, hS⟩; have HS5 := Aside0.mk hS; clear hS)
        go_roundg k1
        case measure => omega
        case rel => exact ⟨i + 1, L, size + k, d', by first | rfl | (rw [hwi]; done) | (simp [hwi]; done), by first | rfl | (rw [e1]; done) | (simp [e1]; done), by first | rfl | (rw [e2]; done) | (simp [e2]; done), HI2, HSL2, HG', HR', HS5⟩
      · have b3 : decide (k ≤ left) = false := decide_eq_false hkl
        have hA2 := Lib.hid (hA.mono (R' := fun e w' => e = .returned (.int .i64 13) ∧ St W w' d) (by
          rintro e w' (⟨h1, _⟩ | ⟨_, h2, h3⟩)
          · omega
          · exact ⟨h2, h3⟩))
        clear hA hkl
        go_upto_region 18 with (go_at_call 13; refine hA2.out.mono ?_; rintro e w3 ⟨rfl, hS⟩; have HS' := Aside0.mk hS; clear hS)
        have hRd := Lib.hid (roomRead HS'.out HRm.out)
        go_wp2_with (go_at_call 14; refine hRd.out.mono ?_; rintro e w4 ⟨A5, c5, j5, rfl, hS⟩; have HS5 := Aside0.mk hS; clear hS)
        go_roundg k1
        case measure => omega
        case rel => exact ⟨i + 1, left, size, d, by first | rfl | (rw [hwi]; done) | (simp [hwi]; done), rfl, rfl, HI2, HSL, ⟨rfl⟩, HRm, HS5⟩
    · have hKn := knownC wr
      by_cases hi1 : i < l.length
      · have b1 : decide (i < l.length) = true := decide_eq_true hi1
        have b2 : decide ((i : Int) < 20) = false := decide_eq_false (by omega)
        clear hi hi1
        go_wp2_with (go_at_call 15; refine hKn.mono ?_; rintro e w4 ⟨rfl, hb⟩; have HB := Aside0.mk hb; clear hb)
        go_ret
        exact ⟨rfl, HSt.out.kept.below HB.out |>.toBelow (fun _ h => h.elim)⟩
      · have b1 : decide (i < l.length) = false := decide_eq_false hi1
        clear hi hi1
        go_wp2_with (go_at_call 15; refine hKn.mono ?_; rintro e w4 ⟨rfl, hb⟩; have HB := Aside0.mk hb; clear hb)
        go_ret
        exact ⟨rfl, HSt.out.kept.below HB.out |>.toBelow (fun _ h => h.elim)⟩
end Go.Proofs.Ytoninmgglcepmaa.Dk
