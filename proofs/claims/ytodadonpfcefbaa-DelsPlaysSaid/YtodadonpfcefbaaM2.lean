/- Marks behind a pointer: what New, Set, Has, Left, Count, Or and Encode do to the blocks of marks, by hand. -/
import Derived.StillTailTactics
import Derived.Deep.RegionHeld3
import Derived.Test.YtodadonpfcefbaaM1
namespace Go.Proofs.Ytodadonpfcefbaa.Marks
open Go.RowKit Go.Proofs.YtodadonpfcefbaaW.PrintWords Go.Proofs.YtodadonpfcefbaaW.PrintLast Go.Proofs.YtodadonpfcefbaaW.PrintMore Go.Proofs.Ytodadonpfcefbaa.QDelsReads
attribute [local go_sem] max2_int min2_int max_two min_two max_three min_three max_four min_four
set_option linter.unusedVariables false
set_option linter.unusedSimpArgs false
/-- A pointer to marks: so many rows, and these bytes, in two blocks. -/
def Mk (w : World) (b g : Nat) (N : Int) (xs : List Int) : Prop := b < g ∧ xs.length ≤ 9223372036854775807 ∧ w.heap[b]? = some (.cells (Array.mk (xs.map fun x => Value.int .u8 x)) 5 (0, 0)) ∧ w.heap[g]? = some (.cells #[.int .i64 N, .slice (some ⟨b, 0, none⟩) xs.length xs.length] 50 (0, 0))
theorem mk_cell0 {w : World} {g : Nat} {N : Int} {A : Option Addr} {n c : Nat} (h : w.heap[g]? = some (.cells #[.int .i64 N, .slice A n c] 50 (0, 0))) : w.cell? ⟨g, 0, none⟩ = some (.int .i64 N) := (blk_cell h 0).trans rfl
theorem mk_cell1 {w : World} {g : Nat} {N : Int} {A : Option Addr} {n c : Nat} (h : w.heap[g]? = some (.cells #[.int .i64 N, .slice A n c] 50 (0, 0))) : w.cell? ⟨g, 1, none⟩ = some (.slice A n c) := (blk_cell h 1).trans rfl
theorem row_of_blk {w : World} {b : Nat} {xs : List Int} (hl : xs.length ≤ 9223372036854775807) (h : w.heap[b]? = some (.cells (Array.mk (xs.map fun x => Value.int .u8 x)) 5 (0, 0))) : Kd.C (Kd.int .u8) w (some ⟨b, 0, none⟩) xs.length xs := by
  refine ⟨rfl, hl, fun _ => ⟨⟨b, 0, none⟩, rfl, fun j p hp => ⟨[.int .u8 p], rfl, rfl, fun i u hu => ?_⟩⟩⟩
  match i, hu with
  | 0, hu =>
    simp only [List.getElem?_cons_zero, Option.some.injEq] at hu
    subst hu
    have := blk_cell h j
    rw [show (Kd.int .u8).sz = 1 from rfl, Nat.mul_one, Nat.add_zero, show (⟨b, 0, none⟩ : Addr).add j = ⟨b, j, none⟩ from (by simp [Addr.add]; intro h; omega), this]
    simp [hp]
theorem Mk.below {w W : World} {b g : Nat} {N : Int} {xs : List Int} (h : Mk w b g N xs) (hb : Below w.heap.size w W) : Mk W b g N xs := ⟨h.1, h.2.1, blk_below h.2.2.1 hb, blk_below h.2.2.2 hb⟩
theorem Mk.grown {w W : World} {b g : Nat} {N : Int} {xs : List Int} {row : Option Nat} (h : Mk w b g N xs) (hk : w.grownBy W row) (n1 : some b ≠ row) (n2 : some g ≠ row) : Mk W b g N xs := ⟨h.1, h.2.1, blk_grown h.2.2.1 hk n1, blk_grown h.2.2.2 hk n2⟩
theorem Mk.lt {w : World} {b g : Nat} {N : Int} {xs : List Int} (h : Mk w b g N xs) : g < w.heap.size := blk_lt h.2.2.2
theorem map_set8 (xs : List Int) (i : Nat) (v : Int) : (Array.mk (xs.map fun x => Value.int .u8 x)).setIfInBounds i (.int .u8 v) = Array.mk ((xs.set i v).map fun x => Value.int .u8 x) := by
  simp [List.map_set]
theorem Mk.put {w : World} {b g : Nat} {N : Int} {xs : List Int} (h : Mk w b g N xs) (i : Nat) (v : Int) : Mk (w.setCell ⟨b, i, none⟩ (.int .u8 v)) b g N (xs.set i v) := by
  obtain ⟨h1, h2, h3, h4⟩ := h
  refine ⟨h1, by rw [List.length_set]; exact h2, ?_, ?_⟩
  · rw [blk_set h3 i (.int .u8 v), map_set8]
  · rw [List.length_set]
    exact blk_far h4 (Nat.ne_of_gt h1) _
theorem grown_set {w w1 : World} (h : Below w.heap.size w w1) (b j : Nat) (v : Value) : w.grownBy (w1.setCell ⟨b, j, none⟩ v) (some b) :=
  ⟨h.os, h.tape, h.output, by have := h.size; simpa [World.setCell] using this, fun k hk hne => (Below.heap_setCell _ _ _ _ (fun e => hne (by rw [e]))).trans (h.block k hk)⟩
theorem grown_then {w w1 w2 : World} {b : Nat} (h : w.grownBy w1 (some b)) (k : w1.grownBy w2 (some b)) : w.grownBy w2 (some b) :=
  ⟨k.os.trans h.os, k.tape.trans h.tape, k.output.trans h.output, Nat.le_trans h.size k.size, fun i hi hn => (k.block i (Nat.lt_of_lt_of_le hi h.size) hn).trans (h.block i hi hn)⟩
/-! ### the world below marks -/
def cutw (w : World) (n : Nat) : World := { w with heap := w.heap.extract 0 n }
theorem cutw_size {w : World} {n : Nat} (h : n ≤ w.heap.size) : (cutw w n).heap.size = n := by simp [cutw]; omega
theorem cutw_blk {w : World} {n k : Nat} (h : k < n) : (cutw w n).heap[k]? = w.heap[k]? := by
  simp only [cutw, Array.getElem?_extract, Nat.zero_add, Nat.sub_zero]
  by_cases hk : k < w.heap.size
  · rw [if_pos (by omega)]
  · rw [if_neg (by omega), Array.getElem?_eq_none (by omega)]
theorem cutw_below {w : World} {n : Nat} (h : n ≤ w.heap.size) : Below (cutw w n).heap.size (cutw w n) w :=
  ⟨rfl, rfl, rfl, by rw [cutw_size h]; exact h, fun k hk => by rw [cutw_size h] at hk; exact (cutw_blk hk).symm⟩
theorem Mk.is {w : World} {b g : Nat} {N : Int} {xs : List Int} (h : Mk w b g N xs) : IsMk b (cutw w g) w g N xs :=
  ⟨some ⟨b, 0, none⟩, xs.length, h.2.2.2, by rw [cutw_size (Nat.le_of_lt h.lt)]; exact Nat.le_refl _, row_of_blk h.2.1 ((cutw_blk h.1).trans h.2.2.1), rfl, rfl⟩
theorem Mk.back {w w' : World} {b g : Nat} {N : Int} {xs : List Int} (h : Mk w b g N xs) (hi : IsMk b (cutw w g) w' g N xs) (hb : Below (cutw w g).heap.size (cutw w g) w') (hk : KeepBut w w' g none) : Below w.heap.size w w' := by
  obtain ⟨A1, c1, hG, _, _, rfl, rfl⟩ := hi
  refine ⟨hb.os, hb.tape, hb.output, hk.1, fun k hk' => ?_⟩
  by_cases e : k = g
  · subst e
    rw [hG, h.2.2.2]
  · exact hk.2 k hk' e (by simp)
theorem has_calls {b g : Nat} {N : Int} {xs : List Int} {a : Int} {r : Bool} {w : World} (hM : Mk w b g N xs) (h : dels_Marks_Has.f N xs a = some (r, N)) :
    Calls Try.prog 10 #[.pointer (some ⟨g, 0, none⟩), .int .i64 a] w fun e w' => e = .returned (.bool r) ∧ Below w.heap.size w w' :=
  (Has_calls g N xs a r N (cutw w g) w hM.is (cutw_below (Nat.le_of_lt hM.lt)) h).mono fun e w' ⟨he, hi, hb, hk⟩ => ⟨he, hM.back hi hb hk⟩
theorem left_calls {b g : Nat} {N : Int} {xs : List Int} {k : Nat} {r : List Int} {w : World} (hM : Mk w b g N xs) (h : dels_Marks_Left.f k N xs = some (r, N)) :
    Calls Try.prog 13 #[.pointer (some ⟨g, 0, none⟩)] w fun e w' => ∃ v0_ : Value, e = .returned (v0_) ∧ Kd.R (Kd.int .i64) 3 w' w.heap.size (fun _ => True) v0_ r ∧ Below w.heap.size w w' :=
  (Left_calls k g N xs r N (cutw w g) w hM.is (cutw_below (Nat.le_of_lt hM.lt)) h).mono fun e w' ⟨v, he, ho, hi, hb, hk⟩ => ⟨v, he, ho, hM.back hi hb hk⟩
theorem encode_calls {b g : Nat} {N : Int} {xs : List Int} {k : Nat} {r : List Int} {w : World} (hM : Mk w b g N xs) (h : dels_Marks_Encode.f k N xs = some (r, N)) :
    Calls Try.prog 18 #[.pointer (some ⟨g, 0, none⟩)] w fun e w' => ∃ v0_ : Value, e = .returned (v0_) ∧ Kd.R (Kd.int .u8) 5 w' w.heap.size (fun _ => True) v0_ r ∧ Below w.heap.size w w' :=
  (Encode_calls k g N xs r N (cutw w g) w hM.is (cutw_below (Nat.le_of_lt hM.lt)) h).mono fun e w' ⟨v, he, ho, hi, hb, hk⟩ => ⟨v, he, ho, hM.back hi hb hk⟩
set_option maxHeartbeats 4000000 in
set_option maxRecDepth 100000 in
theorem has_drawn (b g : Nat) (s0_0 : Int) (s0_1 : List Int) (a1 : Int) (r1 : Bool) (r2 : Int) (w : World) (hM : Mk w b g s0_0 s0_1) (h : dels_Marks_Has.f s0_0 s0_1 a1 = some (r1, r2)) :
    Calls Try.prog 10 #[.pointer (some ⟨g, 0, none⟩), .int .i64 a1] w fun e w' => e = .returned (.bool r1) ∧ Drawn0 w w' := by
  obtain ⟨hbg, hl, hb, hG⟩ := hM
  have hC := row_of_blk hl hb
  generalize (⟨b, 0, none⟩ : Addr) = ad at hG hC
  have HB := Aside0.mk (Below.refl w.heap.size w)
  have H : (if a1 ≥ 0 then (if a1 < s0_0 then (if 0 ≤ (wrap64 (Int.tdiv a1 8)) then (if (wrap64 (Int.tdiv a1 8)) < (s0_1.length : Int) then (if 0 ≤ (Int.tmod a1 8) then (some (((Go.bits .and .u8 (shr .u8 (rd s0_1 (wrap64 (Int.tdiv a1 8))) (Int.tmod a1 8)) 1) == 1), s0_0)) else (none)) else (none)) else (none)) else (some (false, s0_0))) else (some (false, s0_0))) = some (r1, r2) := h
  clear h
  by_cases c3 : a1 ≥ 0
  · rw [if_pos c3] at H
    have c3b0 : decide (0 ≤ a1) = true := decide_eq_true c3
    clear c3
    by_cases c4 : a1 < s0_0
    · rw [if_pos c4] at H
      have c4b0 : decide (a1 < s0_0) = true := decide_eq_true c4
      clear c4
      obtain ⟨ji5, hji5⟩ : ∃ j_ : Int, (wrap64 (Int.tdiv a1 8)) = j_ := ⟨_, rfl⟩
      replace H : (if 0 ≤ (ji5) then (if (ji5) < (s0_1.length : Int) then (if 0 ≤ (Int.tmod a1 8) then (some (((Go.bits .and .u8 (shr .u8 (rd s0_1 (ji5)) (Int.tmod a1 8)) 1) == 1), s0_0)) else (none)) else (none)) else (none)) = some (r1, r2) := by first | (rw [hji5] at H; exact H) | (simp only [hji5] at H ⊢; exact H)
      have hji5w : (IntKind.i64.wrap (Int.tdiv a1 8)) = ji5 := (i64_w _).trans hji5
      by_cases c6 : 0 ≤ (ji5)
      · rw [if_pos c6] at H
        have c6b0 : decide (0 ≤ (ji5)) = true := decide_eq_true c6
        clear c6
        by_cases c7 : (ji5) < (s0_1.length : Int)
        · rw [if_pos c7] at H
          have c7b0 : decide ((ji5) < (s0_1.length : Int)) = true := decide_eq_true c7
          clear c7
          obtain ⟨ji8, hji8⟩ : ∃ j_ : Int, (Int.tmod a1 8) = j_ := ⟨_, rfl⟩
          replace H : (if 0 ≤ (ji8) then (some (((Go.bits .and .u8 (shr .u8 (rd s0_1 (ji5)) (ji8)) 1) == 1), s0_0)) else (none)) = some (r1, r2) := by first | (rw [hji8] at H; exact H) | (simp only [hji8] at H ⊢; exact H)
          by_cases c9 : 0 ≤ (ji8)
          · rw [if_pos c9] at H
            have c9b0 := eq_true c9
            have c9b1 : decide (0 ≤ (ji8)) = true := decide_eq_true c9
            clear c9
            obtain ⟨ji10, hji10⟩ : ∃ j_ : Int, (shr .u8 (rd s0_1 (ji5)) (ji8)) = j_ := ⟨_, rfl⟩
            replace H : (some (((Go.bits .and .u8 (ji10) 1) == 1), s0_0)) = some (r1, r2) := by first | (rw [hji10] at H; exact H) | (simp only [hji10] at H ⊢; exact H)
            have hji10_ : ((rd s0_1 (ji5)) / 2 ^ min (ji8).toNat 8) = ji10 := hji10
            have hji10z : (ji8) ≤ 8 → ((rd s0_1 (ji5)) / 2 ^ (ji8).toNat) = ji10 := shr_small hji10
            simp only [Option.some.injEq, Prod.mk.injEq] at H
            obtain ⟨rfl, rfl⟩ := H
            have HGz11 := hG
            have HSz11_1 := hC
            have hcz11_0 := mk_cell0 HGz11
            have hcz11_1 := mk_cell1 HGz11
            have hfz11_0 := blk_frozen HGz11 0
            clear HGz11
            have p101 : 0 ≤ ((ji5) : Int) := of_decide_eq_true (by first | (with_reducible assumption) | assumption)
            have q101 : (ji5) < (s0_1.length : Int) := of_decide_eq_true (by first | (with_reducible assumption) | assumption)
            obtain ⟨ad101, e101, hx101_0⟩ := Kd.at_int HSz11_1 (ji5) p101 q101
            cases e101
            replace hx101_0 := pw_cell_below HB.out hx101_0
            replace p101 := eq_true p101
            replace q101 := eq_true q101
            go_enter Try.func10, Try.ntmps10
            go_wp2
            go_ret
            exact ⟨by first | rfl | (simp [errW_none, errW_some] <;> rfl) | (simp only [← hji5, ← hji8, ← hji10]; first | rfl | (simp [errW_none, errW_some] <;> rfl)) | (simp [*, errW_none, errW_some] <;> rfl), by repeat (first | exact Drawn0.refl _ | apply Drawn0.step)⟩
          · rw [if_neg c9] at H
            exact absurd H (by simp)
        · rw [if_neg c7] at H
          exact absurd H (by simp)
      · rw [if_neg c6] at H
        exact absurd H (by simp)
    · rw [if_neg c4] at H
      have c4b0 : decide (a1 < s0_0) = false := decide_eq_false c4
      clear c4
      simp only [Option.some.injEq, Prod.mk.injEq] at H
      obtain ⟨rfl, rfl⟩ := H
      have HGz12 := hG
      have HSz12_1 := hC
      have hcz12_0 := mk_cell0 HGz12
      have hcz12_1 := mk_cell1 HGz12
      have hfz12_0 := blk_frozen HGz12 0
      clear HGz12
      go_enter Try.func10, Try.ntmps10
      go_wp2
      go_ret
      exact ⟨by first | rfl | (simp [errW_none, errW_some] <;> rfl) | (simp [*, errW_none, errW_some] <;> rfl), by repeat (first | exact Drawn0.refl _ | apply Drawn0.step)⟩
  · rw [if_neg c3] at H
    have c3b0 : decide (0 ≤ a1) = false := decide_eq_false c3
    clear c3
    simp only [Option.some.injEq, Prod.mk.injEq] at H
    obtain ⟨rfl, rfl⟩ := H
    go_enter Try.func10, Try.ntmps10
    go_wp2
    go_ret
    exact ⟨by first | rfl | (simp [errW_none, errW_some] <;> rfl) | (simp [*, errW_none, errW_some] <;> rfl), by repeat (first | exact Drawn0.refl _ | apply Drawn0.step)⟩
/-! ### (*Marks).Set -/
def markSet (N : Int) (xs : List Int) (a : Int) : Option (Bool × List Int) :=
  if a < 0 then some (false, xs) else if a ≥ N then some (false, xs) else (dels_Marks_Has.f N xs a).bind fun t => if t.1 = true then some (false, xs) else if 0 ≤ wrap64 (Int.tdiv a 8) then (if wrap64 (Int.tdiv a 8) < (xs.length : Int) then (if 0 ≤ Int.tmod a 8 then some (true, xs.set (wrap64 (Int.tdiv a 8)).toNat (Go.bits .or .u8 (rd xs (wrap64 (Int.tdiv a 8))) (2 ^ min (Int.tmod a 8).toNat 8 % 256))) else none) else none) else none
theorem has_same {N : Int} {xs : List Int} {a : Int} {t : Bool} {M : Int} (h : dels_Marks_Has.f N xs a = some (t, M)) : M = N := by
  unfold dels_Marks_Has.f at h
  repeat (first | (split at h) | (simp only [Option.some.injEq, Prod.mk.injEq] at h; exact h.2.symm) | (cases h))
set_option maxHeartbeats 4000000 in
set_option maxRecDepth 100000 in
theorem set_calls {b g : Nat} {N : Int} {xs : List Int} {a : Int} {r1 : Bool} {r2 : List Int} {w : World} (hM : Mk w b g N xs) (h : markSet N xs a = some (r1, r2)) :
    Calls Try.prog 11 #[.pointer (some ⟨g, 0, none⟩), .int .i64 a] w fun e w' => e = .returned (.bool r1) ∧ Mk w' b g N r2 ∧ w.grownBy w' (some b) := by
  unfold markSet at h
  have hcz0 := mk_cell0 hM.2.2.2
  have hcz1 := mk_cell1 hM.2.2.2
  by_cases c1 : a < 0
  · rw [if_pos c1] at h
    simp only [Option.some.injEq, Prod.mk.injEq] at h
    obtain ⟨rfl, rfl⟩ := h
    have c1b : decide (a < 0) = true := decide_eq_true c1
    go_enter Try.func11, Try.ntmps11
    go_wp2
    go_ret
    exact ⟨by first | rfl | (simp [*]; done), hM, World.grownBy.refl _ _⟩
  rw [if_neg c1] at h
  have c1b : decide (a < 0) = false := decide_eq_false c1
  by_cases c2 : a ≥ N
  · rw [if_pos c2] at h
    simp only [Option.some.injEq, Prod.mk.injEq] at h
    obtain ⟨rfl, rfl⟩ := h
    have c2b : decide (N ≤ a) = true := decide_eq_true c2
    go_enter Try.func11, Try.ntmps11
    go_wp2
    go_ret
    exact ⟨by first | rfl | (simp [*]; done), hM, World.grownBy.refl _ _⟩
  rw [if_neg c2] at h
  have c2b : decide (N ≤ a) = false := decide_eq_false c2
  obtain ⟨⟨t1, t2⟩, h1, h⟩ := Option.bind_eq_some_iff.1 h
  obtain rfl := has_same h1
  by_cases c3 : t1 = true
  · subst c3
    rw [if_pos rfl] at h
    simp only [Option.some.injEq, Prod.mk.injEq] at h
    obtain ⟨rfl, rfl⟩ := h
    go_enter Try.func11, Try.ntmps11
    go_wp2_with (first | (go_at_call 10; (with_reducible refine (has_calls hM h1).mono ?_); rintro e w1 ⟨rfl, hd⟩))
    go_ret
    exact ⟨by first | rfl | (simp [*]; done), hM.below hd, grown_of_below hd _⟩
  have c3' : t1 = false := by cases t1 <;> simp_all
  subst c3'
  rw [if_neg Bool.false_ne_true] at h
  obtain ⟨ji, hji⟩ : ∃ j_ : Int, wrap64 (Int.tdiv a 8) = j_ := ⟨_, rfl⟩
  have hjiw : IntKind.i64.wrap (Int.tdiv a 8) = ji := (i64_w _).trans hji
  rw [hji] at h
  by_cases c4 : 0 ≤ ji
  · rw [if_pos c4] at h
    by_cases c5 : ji < (xs.length : Int)
    · rw [if_pos c5] at h
      obtain ⟨jm, hjm⟩ : ∃ j_ : Int, Int.tmod a 8 = j_ := ⟨_, rfl⟩
      rw [hjm] at h
      by_cases c6 : 0 ≤ jm
      · rw [if_pos c6] at h
        simp only [Option.some.injEq, Prod.mk.injEq] at h
        obtain ⟨rfl, rfl⟩ := h
        have c6b : decide (0 ≤ jm) = true := decide_eq_true c6
        go_enter Try.func11, Try.ntmps11
        go_upto_region 3 with (first | (go_at_call 10; (with_reducible refine (has_calls hM h1).mono ?_); rintro e w1 ⟨rfl, hd⟩))
        have hM1 := Aside0.mk (hM.below hd)
        have hD := Aside0.mk hd
        clear hcz0 hcz1 hM hd
        have hcz0 := mk_cell0 hM1.out.2.2.2
        have hcz1 := mk_cell1 hM1.out.2.2.2
        obtain ⟨ad, e1, hx⟩ := Kd.at_int (row_of_blk hM1.out.2.1 hM1.out.2.2.1) ji c4 c5
        cases e1
        rw [show (⟨b, 0, none⟩ : Addr).add ji.toNat = ⟨b, ji.toNat, none⟩ from (by simp [Addr.add]; intro h; omega)] at hx
        have hf := blk_frozen hM1.out.2.2.1 ji.toNat
        replace c4 := eq_true c4
        replace c5 := eq_true c5
        refine wp_region_still_tail 13 (by kernel_rfl) (by kernel_rfl) ?_
        simp only [List.take_succ_cons, List.take_zero, List.drop_succ_cons, List.drop_zero]
        repeat still_step
        refine wpStill_nil ?_
        change wpList _ _ _ _ _ w1.drew
        have hx' : w1.drew.cell? ⟨b, ji.toNat, none⟩ = some (.int .u8 (rd xs ji)) := hx
        have hf' : w1.drew.frozen? ⟨b, ji.toNat, none⟩ = false := hf
        go_wp2
        go_ret
        exact ⟨by first | rfl | (simp [*]; done), hM1.out.put ji.toNat _, grown_set (w1 := w1.drew) hD.out.drew b ji.toNat _⟩
      · rw [if_neg c6] at h
        exact absurd h (by simp)
    · rw [if_neg c5] at h
      exact absurd h (by simp)
  · rw [if_neg c4] at h
    exact absurd h (by simp)
/-! ### New -/
theorem madeCells_u8 (m : Nat) : madeCells (Value.int .u8 0).cells (m * 1) = Array.mk ((List.replicate m (0 : Int)).map fun x => Value.int .u8 x) := by
  apply Array.ext
  · simp [size_madeCells]
  · intro i h1 h2
    simp [madeCells, Value.cells, Nat.mod_one]
theorem make_goes {P : Program} {ops : Array Oper} {Q : Exit → Act → World → Prop} {rest : List Oper} {o : Oper} {a : Act} {W : World} (hgd : o.guard = none) (t : TypeId) (x y : Operand) (ho : o.op = .makeSlice t x y) (m : Nat) (hx : a.eval x = .int .i64 (m : Int)) (hy : a.eval y = .int .i64 (m : Int)) (e : TypeId) (ht : P.underlying t = some (.slice e))
    (hinfo : (P.info? e).map (fun i => (i.zero, i.size, i.bytes)) = some (some (.int .u8 0), 1, 1)) (hm : m ≤ 281474976710656) (h : wpList P ops Q rest (a.put o.dst (.slice (some ⟨W.heap.size, 0, none⟩) m m)) (W.alloc (.cells (Array.mk ((List.replicate m (0 : Int)).map fun x => Value.int .u8 x)) e))) : wpList P ops Q (o :: rest) a W := by
  obtain ⟨i0, hi, hzz⟩ := Option.map_eq_some_iff.1 hinfo
  simp only [Prod.mk.injEq] at hzz
  obtain ⟨hz0, hz1, hz2⟩ := hzz
  have hr := run_make (P := P) W t e i0 _ ht hi hz0 .i64 .i64 (m : Int) (m : Int) (by omega) (by omega) (by rw [hz2]; omega) (by omega)
  simp only [Int.toNat_natCast] at hr
  rw [hz1, madeCells_u8] at hr
  refine Kd.event_run hgd ?_ h
  simp [execOp, ho, hx, hy, hr]
theorem newBad_calls (n : Int) (w : World) (h : n < 0 ∨ n > 1048576) : Calls Try.prog 9 #[.int .i64 n] w fun e w' => e = .returned (.tuple #[.pointer none, .int .i64 1]) ∧ Below w.heap.size w w' := by
  by_cases c : n < 0
  · have cb : decide (n < 0) = true := decide_eq_true c
    go_enter Try.func9, Try.ntmps9
    go_wp2
    go_ret2
    exact ⟨by first | rfl | (simp [*]; done), Below.refl _ _⟩
  · have c2 : n > 1048576 := by omega
    have cb : decide (n < 0) = false := decide_eq_false c
    have cb2 : decide (1048576 < n) = true := decide_eq_true c2
    go_enter Try.func9, Try.ntmps9
    go_wp2
    go_ret2
    exact ⟨by first | rfl | (simp [*]; done), Below.refl _ _⟩
theorem newOk_calls (n m : Nat) (w : World) (h1 : n ≤ 1048576) (hm : m = (n + 7) / 8) : Calls Try.prog 9 #[.int .i64 (n : Int)] w fun e w' => ∃ b g, e = .returned (.tuple #[.pointer (some ⟨g, 0, none⟩), .int .i64 0]) ∧ Mk w' b g n (List.replicate m 0) ∧ w.heap.size ≤ b ∧ Below w.heap.size w w' := by
  have cb : decide ((n : Int) < 0) = false := decide_eq_false (by omega)
  have cb2 : decide (1048576 < (n : Int)) = false := decide_eq_false (by omega)
  obtain ⟨s, hs⟩ : ∃ s : Int, IntKind.i64.wrap ((n : Int) + 7) = s := ⟨_, rfl⟩
  have hs' : s = (n : Int) + 7 := by rw [← hs, IntKind.wrap_i64]; omega
  have hq : IntKind.i64.wrap (Int.tdiv s 8) = (m : Int) := by
    rw [hs', Int.tdiv_eq_ediv_of_nonneg (by omega), IntKind.wrap_i64]; omega
  have hm2 : m ≤ 281474976710656 := by omega
  clear hs' hm h1
  go_enter Try.func9, Try.ntmps9
  go_wp2_with (first | ((with_reducible refine gate_dst (N := 14) rfl ?_); refine make_goes rfl 38 _ _ rfl m rfl rfl 5 Try.underlying38 info5 hm2 ?_))
  go_ret2
  refine ⟨w.heap.size, _, rfl, ?_, Nat.le_refl _, ?_⟩
  · have he : Array.mk ((List.replicate m (0 : Int)).map fun x => Value.int .u8 x) = Array.replicate m (Value.int .u8 0) := by simp
    refine ⟨by simp, by simp; omega, ?_, ?_⟩
    · rw [he]
      exact blk_alloc (blk_new w _) _
    · have := blk_new (w.alloc (.cells (Array.replicate m (Value.int .u8 0)) 5)) (.cells #[.int .i64 (n : Int), .slice (some ⟨w.heap.size, 0, none⟩) m m] 50)
      rw [show (w.alloc (.cells (Array.replicate m (Value.int .u8 0)) 5)).heap.size = w.heap.size + 1 from by simp] at this
      rw [List.length_replicate]
      exact this
  · exact below_alloc (below_alloc (Below.refl _ _) _) _
/-! ### Count -/
def CntS (w w' : World) : Prop := Below w.heap.size w w'
theorem CntS.all {w w' : World} {b g : Nat} {N : Int} {xs : List Int} (hM : Mk w b g N xs) (h : CntS w w') : w'.cell? ⟨g, 0, none⟩ = some (.int .i64 N) ∧ CntS w w' := ⟨mk_cell0 (hM.below h).2.2.2, h⟩
theorem CntS.step {w w1 w2 : World} (h : CntS w w1) (k : Below w1.heap.size w1 w2) : CntS w w2 := below_step h k
theorem CntS.drew {w w1 : World} (h : CntS w w1) : CntS w w1.drew := Below.drew h
theorem CntS.of {w w1 : World} {g : Nat} {N : Int} (h : w1.cell? ⟨g, 0, none⟩ = some (.int .i64 N) ∧ CntS w w1) : CntS w w1 := h.2
theorem CntS.self (w : World) : CntS w w := Below.refl _ _
set_option maxHeartbeats 4000000 in
set_option maxRecDepth 100000 in
theorem count_calls {b g : Nat} {N : Int} {xs : List Int} {k : Nat} {r : List Int} {c : Int} {w : World} (hM : Mk w b g N xs) (h : dels_Marks_Left.f k N xs = some (r, N)) (hc : IntKind.i64.wrap (N - (r.length : Int)) = c) :
    Calls Try.prog 12 #[.pointer (some ⟨g, 0, none⟩)] w fun e w' => e = .returned (.int .i64 c) ∧ Below w.heap.size w w' := by
  have hM0 := Aside0.mk hM
  clear hM
  go_enter Try.func12, Try.ntmps12
  go_upto_region 1 with (fail)
  go_region_held3 (fun w' => w'.cell? ⟨g, 0, none⟩ = some (.int .i64 N) ∧ CntS w w') (first | exact CntS.all hM0.out (CntS.step HS_ hb3) | exact CntS.all hM0.out (CntS.drew (by assumption)) | exact CntS.all hM0.out (CntS.drew (CntS.self _)) | (go_keep; done)) (first | (go_at_call 13; have HS_ := CntS.of (w := w) (g := g) (N := N) (by assumption); refine (left_calls (hM0.out.below HS_) h).mono ?_; rintro e w3 ⟨v, rfl, ho, hb3⟩; obtain ⟨A3, c3, e3⟩ := Kd.R_slice ho; subst e3))
  go_wp2
  go_ret
  exact ⟨rfl, CntS.step HS_ hb3⟩
/-! ### Or -/
set_option maxHeartbeats 4000000 in
set_option maxRecDepth 100000 in
theorem orNil_calls {p : Value} {w : World} : Calls Try.prog 14 #[p, .pointer none] w fun e w' => e = .returned (.int .i64 1) ∧ Below w.heap.size w w' := by
  go_enter Try.func14, Try.ntmps14
  go_upto_region 1 with (fail)
  go_quiet (fail)
  go_wp2
  go_ret
  exact ⟨rfl, by repeat (first | exact Below.refl _ _ | apply pw_below_drewN | apply Below.drew)⟩
set_option maxHeartbeats 4000000 in
set_option maxRecDepth 100000 in
theorem orBad_calls {b g b2 g2 : Nat} {N M : Int} {xs ys : List Int} {w : World} (hM : Mk w b g N xs) (hO : Mk w b2 g2 M ys) (hne : M ≠ N) : Calls Try.prog 14 #[.pointer (some ⟨g, 0, none⟩), .pointer (some ⟨g2, 0, none⟩)] w fun e w' => e = .returned (.int .i64 1) ∧ Below w.heap.size w w' := by
  have hcz0 := mk_cell0 hM.2.2.2
  have hcy0 := mk_cell0 hO.2.2.2
  have hd : decide (M = N) = false := decide_eq_false hne
  go_enter Try.func14, Try.ntmps14
  go_upto_region 1 with (fail)
  go_quiet (fail)
  go_wp2
  go_ret
  exact ⟨rfl, by repeat (first | exact Below.refl _ _ | apply pw_below_drewN | apply Below.drew)⟩
/-- How many of the bytes have been joined. -/
def orAt (xs ys : List Int) (i : Nat) : List Int := (List.zipWith (fun a c => Go.bits .or .u8 a c) xs ys).take i ++ xs.drop i
theorem orAt_len {xs ys : List Int} (h : xs.length = ys.length) (i : Nat) : (orAt xs ys i).length = xs.length := by
  simp [orAt]; omega
theorem orAt_get {xs ys : List Int} (h : xs.length = ys.length) {i : Nat} (hi : i < ys.length) : (orAt xs ys i)[i]? = xs[i]? := by
  unfold orAt
  rw [List.getElem?_append_right (by simp; omega)]
  simp only [List.length_take, List.length_zipWith, List.getElem?_drop]
  congr 1
  omega
theorem orAt_step {xs ys : List Int} (h : xs.length = ys.length) {i : Nat} (hi : i < ys.length) : (orAt xs ys i).set i (Go.bits .or .u8 (xs.getD i 0) (ys.getD i 0)) = orAt xs ys (i + 1) := by
  have hx : i < xs.length := by omega
  apply List.ext_getElem?
  intro j
  rw [List.getElem?_set]
  by_cases e : i = j
  · subst e
    rw [if_pos rfl, if_pos (by rw [orAt_len h]; omega)]
    unfold orAt
    rw [List.getElem?_append_left (by simp; omega), List.getElem?_take, if_pos (by omega)]
    simp [List.getElem?_zipWith, List.getElem?_eq_getElem hx, List.getElem?_eq_getElem hi, List.getD_eq_getElem?_getD]
  · rw [if_neg e]
    unfold orAt
    by_cases hj : j < i
    · rw [List.getElem?_append_left (by simp; omega), List.getElem?_append_left (by simp; omega), List.getElem?_take, List.getElem?_take, if_pos (by omega), if_pos (by omega)]
    · rw [List.getElem?_append_right (by simp; omega), List.getElem?_append_right (by simp; omega)]
      simp only [List.length_take, List.length_zipWith, List.getElem?_drop]
      congr 1
      omega
theorem blk_u8 {w : World} {b : Nat} {xs : List Int} (h : w.heap[b]? = some (.cells (Array.mk (xs.map fun x => Value.int .u8 x)) 5 (0, 0))) {i : Nat} {x : Int} (hx : xs[i]? = some x) : w.cell? ⟨b, i, none⟩ = some (.int .u8 x) := by
  rw [blk_cell h i]
  simp [hx]
set_option maxHeartbeats 4000000 in
set_option maxRecDepth 100000 in
theorem orOk_calls {b g b2 g2 : Nat} {N : Int} {xs ys : List Int} {w : World} (hM : Mk w b g N xs) (hO : Mk w b2 g2 N ys) (hl : xs.length = ys.length) (h1 : b ≠ b2) (h2 : b ≠ g2) : Calls Try.prog 14 #[.pointer (some ⟨g, 0, none⟩), .pointer (some ⟨g2, 0, none⟩)] w fun e w' => e = .returned (.int .i64 0) ∧ Mk w' b g N (orAt xs ys ys.length) ∧ w.grownBy w' (some b) := by
  have hcz0 := mk_cell0 hM.2.2.2
  have hcy0 := mk_cell0 hO.2.2.2
  have hcy1 := mk_cell1 hO.2.2.2
  have hd : decide (N = N) = true := decide_eq_true rfl
  have hM0 := Aside0.mk hM
  have hO0 := Aside0.mk hO
  clear hM hO
  go_enter Try.func14, Try.ntmps14
  go_upto_region 1 with (fail)
  go_quiet (fail)
  go_wp2
  try simp only [Act.put, List.setIfInBounds_toArray, List.set_cons_zero, List.set_cons_succ]
  go_loopg [25] (ys.length + 1) (fun kq v25 w' => ∃ i : Nat, v25 = .int .i64 (i : Int) ∧ Aside0 (i + kq = ys.length + 1 ∧ i ≤ ys.length) ∧ Aside0 (Mk w' b g N (orAt xs ys i)) ∧ Aside0 (Mk w' b2 g2 N ys) ∧ Aside0 (w.grownBy w' (some b)))
  case atStart => exact ⟨0, rfl, ⟨by omega, by omega⟩, ⟨by rw [show orAt xs ys 0 = xs from by simp [orAt]]; exact hM0.out⟩, ⟨hO0.out⟩, ⟨grown_of_below (by repeat (first | exact Below.refl _ _ | apply pw_below_drewN | apply Below.drew)) _⟩⟩
  case round =>
    clear hcz0 hcy0 hcy1
    obtain ⟨i, rfl, HI, HM, HO, HG⟩ := hrel
    cases gk with
    | zero =>
      have := HI.out
      omega
    | succ k1 =>
      obtain ⟨ji, hji⟩ : ∃ j : Int, (i : Int) = j := ⟨_, rfl⟩
      rw [hji]
      by_cases c : i < ys.length
      · have cb : decide (ji < (ys.length : Int)) = true := decide_eq_true (by omega)
        obtain ⟨x, hx⟩ : ∃ x, xs[i]? = some x := ⟨_, List.getElem?_eq_getElem (by omega)⟩
        obtain ⟨y, hy⟩ : ∃ y, ys[i]? = some y := ⟨_, List.getElem?_eq_getElem c⟩
        have hcx := blk_u8 HM.out.2.2.1 ((orAt_get hl c).trans hx)
        have hfx := blk_frozen HM.out.2.2.1 i
        have hcy := blk_u8 HO.out.2.2.1 hy
        have hcz1 := mk_cell1 HM.out.2.2.2
        rw [orAt_len hl, hl] at hcz1
        have hti : ji.toNat = i := by omega
        rw [← hti] at hcx hfx hcy
        have hput := Aside0.mk (HM.out.put i (Go.bits .or .u8 x y))
        have hst := orAt_step hl c
        rw [List.getD_eq_getElem?_getD, List.getD_eq_getElem?_getD, hx, hy] at hst
        rw [show (some x).getD 0 = x from rfl, show (some y).getD 0 = y from rfl] at hst
        rw [hst] at hput
        have HO2 := Aside0.mk (HO.out.grown (grown_set (Below.refl _ _) b i (.int .u8 (Go.bits .or .u8 x y))) (by intro e; injection e with e; exact h1 e.symm) (by intro e; injection e with e; exact h2 e.symm))
        have HG2 := Aside0.mk (grown_then HG.out (grown_set (Below.refl _ _) b i (.int .u8 (Go.bits .or .u8 x y))))
        rw [← hti] at hput HO2 HG2
        have p0 : (0 ≤ ji) = True := eq_true (by omega)
        have p1 : (ji < (ys.length : Int)) = True := eq_true (by omega)
        have hw' : IntKind.i64.wrap (ji + 1) = ((ji.toNat + 1 : Nat) : Int) := by
          have h3 := HM.out.2.1
          rw [orAt_len hl] at h3
          rw [IntKind.wrap_i64]; omega
        have hi3 : ji.toNat + 1 + k1 = ys.length + 1 ∧ ji.toNat + 1 ≤ ys.length := by have := HI.out; omega
        have hms : k1 < k1 + 1 := Nat.lt_succ_self _
        clear HM HO HG hst hti
        go_wp2
        go_roundg k1
        case measure => omega
        case rel => exact ⟨ji.toNat + 1, by first | rfl | (rw [hw']; done) | (simp [hw']; done) | (simp; omega), ⟨hi3⟩, hput, HO2, HG2⟩
      · have cb : decide (ji < (ys.length : Int)) = false := decide_eq_false (by omega)
        have hi : i = ys.length := by have := HI.out; omega
        subst hi
        go_wp2
        go_ret
        exact ⟨rfl, HM.out, HG.out⟩
end Go.Proofs.Ytodadonpfcefbaa.Marks
