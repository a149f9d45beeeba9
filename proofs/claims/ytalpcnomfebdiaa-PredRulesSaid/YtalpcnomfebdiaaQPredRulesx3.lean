-- Written by a program of this session (wip/myprint.py): the machine's side of a law
import Derived.Test.YtalpcnomfebdiaaQPredRulesx0
namespace Go.Proofs.Ytalpcnomfebdiaa.QPredRules
open Go.RowKit Go.Proofs.YtalpcnomfebdiaaW.PrintWords Go.Proofs.YtalpcnomfebdiaaW.PrintLast Go.Proofs.YtalpcnomfebdiaaW.PrintMore
attribute [local go_sem] max2_int min2_int max_two min_two max_three min_three max_four min_four   -- for this text's walks alone
set_option linter.unusedVariables false
set_option linter.unusedSimpArgs false

/-! ### row_Name: function 50 -/
mutual
def row_Name.j0 : Nat → ByteArray → Bool → Option (Bool)
 | 0, _, _ => none
 | k + 1, x0, x10 => if x10 = true then (some false) else (row_Name.l0 k x0 (x0.size : Int) 0)
def row_Name.l0 : Nat → ByteArray → Int → Int → Option (Bool)
 | 0, _, _, _ => none
 | k + 1, x0, x12, x13 => if x13 < x12 then (if 0 ≤ x13 then (if x13 < (x0.size : Int) then (if (bt x0 x13) < 97 then (some false) else (if (bt x0 x13) > 122 then (some false) else (row_Name.l0 k x0 x12 (wrap64 (x13 + 1))))) else (none)) else (none)) else (some true)
end
def row_Name.f (k : Nat) (a0 : ByteArray) : Option (Bool) := if a0.toList = ([] : List UInt8) then (row_Name.j0 k a0 true) else (row_Name.j0 k a0 (decide ((a0.size : Int) > 12)))
theorem row_Name.mono_l : ∀ k, (∀ y0 y1, LeO (row_Name.j0 k y0 y1) (row_Name.j0 (k + 1) y0 y1)) ∧ (∀ y0 y1 y2, LeO (row_Name.l0 k y0 y1 y2) (row_Name.l0 (k + 1) y0 y1 y2))
 | 0 => ⟨fun _ _ r h => by simp [row_Name.j0] at h, fun _ _ _ r h => by simp [row_Name.l0] at h⟩
 | k + 1 => by
  obtain ⟨ih0, ih1⟩ := row_Name.mono_l k
  refine ⟨?_, ?_⟩
  ·intro y0 y1
   unfold row_Name.j0
   repeat' first
   | (with_reducible exact ih0 _ _)
   | (with_reducible exact ih1 _ _ _)
   | (with_reducible exact LeO.refl _)
   | (with_reducible exact LeO.none _)
   | (with_reducible refine LeO.ite ?_ ?_)
   | (with_reducible refine LeO.bind ?_ (fun _ => ?_))
   | exact ih0 _ _
   | exact ih1 _ _ _
   | exact LeO.none _
   | refine LeO.ite ?_ ?_
   | refine LeO.bind ?_ (fun _ => ?_)
  intro y0 y1 y2
  unfold row_Name.l0
  repeat' first
  | (with_reducible exact ih0 _ _)
  | (with_reducible exact ih1 _ _ _)
  | (with_reducible exact LeO.refl _)
  | (with_reducible exact LeO.none _)
  | (with_reducible refine LeO.ite ?_ ?_)
  | (with_reducible refine LeO.bind ?_ (fun _ => ?_))
  | exact ih0 _ _
  | exact ih1 _ _ _
  | exact LeO.none _
  | refine LeO.ite ?_ ?_
  | refine LeO.bind ?_ (fun _ => ?_)
theorem row_Name.mono : ∀ a0 k, LeO (row_Name.f k a0) (row_Name.f (k + 1) a0) := by
 intro a0 k
 obtain ⟨ih0, ih1⟩ := row_Name.mono_l k
 unfold row_Name.f
 repeat' first
   | (with_reducible exact ih0 _ _)
   | (with_reducible exact ih1 _ _ _)
   | (with_reducible exact LeO.refl _)
   | (with_reducible exact LeO.none _)
   | (with_reducible refine LeO.ite ?_ ?_)
   | (with_reducible refine LeO.bind ?_ (fun _ => ?_))
   | exact ih0 _ _
   | exact ih1 _ _ _
   | exact LeO.none _
   | refine LeO.ite ?_ ?_
   | refine LeO.bind ?_ (fun _ => ?_)
set_option maxHeartbeats 8000000 in
set_option maxRecDepth 100000 in
theorem row_Name.calls (k : Nat) (a0 : ByteArray) (r : Bool) (w : World) (h : row_Name.f k a0 = some r) :
  Calls Try.prog 50 #[.string a0] w fun e w' => e = .returned (.bool r) ∧ Drawn0 w w' := by
 have H : (if a0.toList = ([] : List UInt8) then (row_Name.j0 k a0 true) else (row_Name.j0 k a0 (decide ((a0.size : Int) > 12)))) = some r := h
 clear h
 have HC2 := zM H
 clear H
 go_enter Try.func50, Try.ntmps50
 go_upto_region 1 with (fail)
 go_cut [10] (fun v10 wc => ∃ (kq : Nat) (x10_1 : Bool), v10 = .bool x10_1 ∧ Aside0 (row_Name.j0 kq a0 x10_1 = some r) ∧ Aside0 (kq ≤ k) ∧ Drawn0 w wc)
 case first =>
  have H := HC2.out
  clear HC2
  by_cases c3 : a0.toList = ([] : List UInt8)
  ·rw [if_pos c3] at H
   have c3b0 : (a0.toList == ([] : List UInt8)) = true := beq_iff_eq.mpr c3
   have c3b1 : (a0.toList != ([] : List UInt8)) = false := bne_eq_false_iff_eq.mpr c3
   clear c3
   (first | rw [c3b0] | rw [c3b1] | (simp only [i64_w, i32_w]; rw [c3b0]) | skip)
   have H' := Aside0.mk H
   clear H
   go_wp2
   go_meet
   case rel => exact ⟨_, (true), ya, H', ⟨by first | omega | exact Nat.le_refl _⟩, by repeat (first | exact Drawn0.refl _ | apply Drawn0.step)⟩
  rw [if_neg c3] at H
  have c3b0 : (a0.toList == ([] : List UInt8)) = false := beq_eq_false_iff_ne.mpr c3
  have c3b1 : (a0.toList != ([] : List UInt8)) = true := bne_iff_ne.mpr c3
  (first | rw [c3b0] | rw [c3b1] | (simp only [i64_w, i32_w]; rw [c3b0]) | skip)
  have H' := Aside0.mk H
  clear H
  go_wp2
  go_meet
  case rel => exact ⟨_, (decide ((a0.size : Int) > 12)), ya, H', ⟨by first | omega | exact Nat.le_refl _⟩, by repeat (first | exact Drawn0.refl _ | apply Drawn0.step)⟩
 clear HC2
 try clear c3
 try clear c3b0
 try clear c3b1
 obtain ⟨kq, x10_1, rfl, HA, HJ1, ⟨mc1, rfl⟩⟩ := hcut
 cases kq with
 | zero => exact absurd HA.out (by simp [row_Name.j0])
 | succ kj1 =>
  have H := HA.out
  clear HA
  simp only [row_Name.j0] at H
  by_cases c4 : x10_1 = true
  ·subst c4
   rw [if_pos rfl] at H
   obtain rfl := Option.some.inj H
   go_wp2
   go_ret
   exact ⟨by first | rfl | (simp; done) | (simp [*]; done), by repeat (first | exact Drawn0.refl _ | apply Drawn0.step)⟩
  replace c4 := Bool.eq_false_iff.mpr c4
  subst c4
  rw [if_neg (show ¬ (false = true) by decide)] at H
  have H' := Aside0.mk H
  clear H
  go_wp2
  go_loopg [13] kj1 (fun kq v13 w' => ∃ (x13_2 : Int), v13 = .int .i64 x13_2 ∧ Aside0 (row_Name.l0 kq a0 (a0.size : Int) x13_2 = some r) ∧ Aside0 (kq ≤ kj1) ∧ Drawn0 w w')
  case atStart => exact ⟨(0), ya, H', ⟨Nat.le_refl _⟩, by repeat (first | exact Drawn0.refl _ | apply Drawn0.step)⟩
  case round =>
   clear H'
   try clear c3
   try clear c3b0
   try clear c3b1
   try clear c4
   obtain ⟨x13_2, rfl, HA, HK2, ⟨m2, rfl⟩⟩ := hrel
   cases gk with
   | zero => exact absurd HA.out (by simp [row_Name.l0])
   | succ k2 =>
    have H := HA.out
    clear HA
    simp only [row_Name.l0] at H
    by_cases c5 : x13_2 < (a0.size : Int)
    ·rw [if_pos c5] at H
     have c5b0 : decide (x13_2 < (a0.size : Int)) = true := decide_eq_true c5
     clear c5
     by_cases c6 : 0 ≤ x13_2
     ·rw [if_pos c6] at H
      have c6b0 : decide (0 ≤ x13_2) = true := decide_eq_true c6
      clear c6
      by_cases c7 : x13_2 < (a0.size : Int)
      ·rw [if_pos c7] at H
       have c7b0 : decide (x13_2 < (a0.size : Int)) = true := decide_eq_true c7
       clear c7
       by_cases c9 : (bt a0 x13_2) < 97
       ·rw [if_pos c9] at H
        have c9b0 : decide ((bt a0 x13_2) < 97) = true := decide_eq_true c9
        clear c9
        obtain rfl := Option.some.inj H
        have p8 : 0 ≤ (x13_2 : Int) := zA
        have q8 : x13_2 < (a0.size : Int) := zA
        have hx8 := bt_at a0 x13_2
        replace p8 := eq_true p8
        replace q8 := eq_true q8
        go_wp2
        go_ret
        exact ⟨by first | rfl | (simp; done) | (simp [*]; done), by repeat (first | exact Drawn0.refl _ | apply Drawn0.step)⟩
       rw [if_neg c9] at H
       have c9b0 : decide ((bt a0 x13_2) < 97) = false := decide_eq_false c9
       clear c9
       by_cases c11 : (bt a0 x13_2) > 122
       ·rw [if_pos c11] at H
        have c11b0 : decide (122 < (bt a0 x13_2)) = true := decide_eq_true c11
        clear c11
        obtain rfl := Option.some.inj H
        have p8 : 0 ≤ (x13_2 : Int) := zA
        have q8 : x13_2 < (a0.size : Int) := zA
        have hx8 := bt_at a0 x13_2
        replace p8 := eq_true p8
        replace q8 := eq_true q8
        have p10 : 0 ≤ (x13_2 : Int) := zA
        have q10 : x13_2 < (a0.size : Int) := zA
        have hx10 := bt_at a0 x13_2
        replace p10 := eq_true p10
        replace q10 := eq_true q10
        go_wp2
        go_ret
        exact ⟨by first | rfl | (simp; done) | (simp [*]; done), by repeat (first | exact Drawn0.refl _ | apply Drawn0.step)⟩
       rw [if_neg c11] at H
       have c11b0 : decide (122 < (bt a0 x13_2)) = false := decide_eq_false c11
       clear c11
       have H' := Aside0.mk H
       clear H
       have p8 : 0 ≤ (x13_2 : Int) := zA
       have q8 : x13_2 < (a0.size : Int) := zA
       have hx8 := bt_at a0 x13_2
       replace p8 := eq_true p8
       replace q8 := eq_true q8
       have p10 : 0 ≤ (x13_2 : Int) := zA
       have q10 : x13_2 < (a0.size : Int) := zA
       have hx10 := bt_at a0 x13_2
       replace p10 := eq_true p10
       replace q10 := eq_true q10
       go_wp2
       go_roundg k2
       case measure => have := HJ1.out; have := HK2.out; omega
       case rel => exact ⟨(wrap64 (x13_2 + 1)), ya, H', ⟨by have := HJ1.out; have := HK2.out; omega⟩, by repeat (first | exact Drawn0.refl _ | apply Drawn0.step)⟩
      rw [if_neg c7] at H
      exact absurd H (by simp)
     rw [if_neg c6] at H
     exact absurd H (by simp)
    rw [if_neg c5] at H
    have c5b0 : decide (x13_2 < (a0.size : Int)) = false := decide_eq_false c5
    clear c5
    obtain rfl := Option.some.inj H
    go_wp2
    go_ret
    exact ⟨by first | rfl | (simp; done) | (simp [*]; done), by repeat (first | exact Drawn0.refl _ | apply Drawn0.step)⟩

/-! ### pred_texts: function 51 -/
/-! pred.texts, whose test is handed to slices.ContainsFunc: by hand -/
/-- Is a text longer than may be? -/
def pred_long (s : ByteArray) : Bool := decide (40 < s.size)
set_option maxHeartbeats 8000000 in
set_option maxRecDepth 100000 in
theorem slices_IndexFunc_plong (A : Option Addr) (c : Nat) (l : List ByteArray) (w : World) (hr : Kd.C Kd.string w A l.length l) (hl : l.length ≤ 9223372036854775807) :
  Calls Try.prog 74 #[.slice A l.length c, .func (.func 67) #[] #[]] w fun e w' => ∃ r : Int, e = .returned (.int .i64 r) ∧ decide (0 ≤ r) = l.any pred_long ∧ Drawn0 w w' := by
 have HR := zM hr
 have HL := zM hl
 clear hr hl
 go_enter Try.func74, Try.ntmps74
 go_wp2
 go_loopg [8] l.length (fun kq v8 w' => ∃ x : Nat, v8 = .int .i64 (x : Int) ∧ Aside0 (x ≤ l.length ∧ l.length - x ≤ kq) ∧ Aside0 (∀ s ∈ l.take x, pred_long s = false) ∧ Drawn0 w w')
 case atStart => exact ⟨0, rfl, ⟨by omega, by omega⟩, ⟨by simp⟩, Drawn0.refl _⟩
 case round =>
  obtain ⟨x, rfl, HX, HA, ⟨m1, rfl⟩⟩ := hrel
  by_cases h : x < l.length
  ·have hlt : decide ((x : Int) < (l.length : Int)) = true := decide_eq_true (by omega)
   have p1 : 0 ≤ (x : Int) := by omega
   have q1 : (x : Int) < (l.length : Int) := by omega
   obtain ⟨ad, e1, hx⟩ := Kd.at_string HR.out (x : Int) p1 q1
   cases e1
   have hg : rdOf ByteArray.empty l (x : Int) = l[x] := by simp [rdOf, List.getD_eq_getElem?_getD, List.getElem?_eq_getElem h]
   rw [hg, Int.toNat_natCast] at hx
   have hL := HL.out
   by_cases hs : 40 < l[x].size
   ·have hb : decide (40 < (l[x].size : Int)) = true := decide_eq_true (by omega)
    have hmem : l.any pred_long = true := List.any_eq_true.2 ⟨l[x], List.getElem_mem _, decide_eq_true hs⟩
    have HM := zM hmem
    generalize l[x] = s at *
    clear hg hmem hL
    go_wp2
    go_ret
    refine ⟨_, rfl, ?_, by repeat (first | exact Drawn0.refl _ | apply Drawn0.step)⟩
    rw [HM.out]
    exact decide_eq_true p1
   have hb : decide (40 < (l[x].size : Int)) = false := decide_eq_false (by omega)
   have hn : ∀ s ∈ l.take (x + 1), pred_long s = false := by
    intro s hs'
    rw [List.take_add_one, List.getElem?_eq_getElem h] at hs'
    rcases List.mem_append.1 hs' with h1 | h1
    ·exact HA.out s h1
    rw [List.mem_singleton.1 h1]
    exact decide_eq_false hs
   have HN := zM hn
   generalize l[x] = s at *
   clear hg hn hs
   go_wp2
   go_roundg (l.length - (x + 1))
   case measure => have := HX.out; omega
   case rel => exact ⟨x + 1, by first | rfl | (simp; done) | (simp [*]; done) | (congr 1; omega), ⟨by omega, by omega⟩, HN, by repeat (first | exact Drawn0.refl _ | apply Drawn0.step)⟩
  have hlt : decide ((x : Int) < (l.length : Int)) = false := decide_eq_false (by omega)
  go_wp2
  go_ret
  refine ⟨_, rfl, ?_, by repeat (first | exact Drawn0.refl _ | apply Drawn0.step)⟩
  have h1 := HA.out
  rw [List.take_of_length_le (by omega)] at h1
  rw [show l.any pred_long = false from by rw [List.any_eq_false]; intro s hs; rw [h1 s hs]; decide]
  decide
set_option maxHeartbeats 8000000 in
set_option maxRecDepth 100000 in
theorem slices_ContainsFunc_plong (A : Option Addr) (c : Nat) (l : List ByteArray) (w : World) (hr : Kd.C Kd.string w A l.length l) (hl : l.length ≤ 9223372036854775807) :
  Calls Try.prog 66 #[.slice A l.length c, .func (.func 67) #[] #[]] w fun e w' => e = .returned (.bool (l.any pred_long)) ∧ Drawn0 w w' := by
 have HR := zM hr
 have HL := zM hl
 clear hr hl
 go_enter Try.func66, Try.ntmps66
 go_wp2_with (go_at_call 74; refine (slices_IndexFunc_plong _ _ l _ HR.out HL.out).mono ?_; rintro e w1 ⟨r, rfl, hb, ⟨m1, rfl⟩⟩)
 go_ret
 exact ⟨rfl, by repeat (first | exact Drawn0.refl _ | apply Drawn0.step)⟩
/-- pred.texts: is none too long? -/
def pred_texts.f (l0 : List ByteArray) : Option Bool := if l0.length ≤ 9223372036854775807 then some (!l0.any pred_long) else none
set_option maxHeartbeats 8000000 in
set_option maxRecDepth 100000 in
theorem pred_texts.calls (A0 : Option Addr) (c0 : Nat) (l0 : List ByteArray) (r : Bool) (w : World) (hr0 : Kd.C Kd.string w A0 l0.length l0) (hc0 : l0.length ≤ c0) (h : pred_texts.f l0 = some r) :
  Calls Try.prog 51 #[.slice A0 l0.length c0] w fun e w' => e = .returned (.bool r) ∧ Drawn0 w w' := by
 have HR0 := zM hr0
 clear hr0 hc0
 unfold pred_texts.f at h
 by_cases c1 : l0.length ≤ 9223372036854775807
 ·rw [if_pos c1] at h
  obtain rfl := Option.some.inj h
  have HL := zM c1
  clear h c1
  go_enter Try.func51, Try.ntmps51
  go_wp2_with (go_at_call 66; refine (slices_ContainsFunc_plong _ _ l0 _ HR0.out HL.out).mono ?_; rintro e w2 ⟨rfl, ⟨m2, rfl⟩⟩)
  go_ret
  exact ⟨rfl, by repeat (first | exact Drawn0.refl _ | apply Drawn0.step)⟩
 rw [if_neg c1] at h
 cases h

/-! ### pred_rising: function 52 -/
def pred_rising.l0 : Nat → List ByteArray → Int → Option (Bool)
 | 0, _, _ => none
 | k + 1, x0, x3 => if x3 < (x0.length : Int) then (if 0 ≤ (wrap64 (x3 - 1)) then (if (wrap64 (x3 - 1)) < (x0.length : Int) then (if 0 ≤ x3 then (if (Op.bytesLess ((rdOf ByteArray.empty x0 (wrap64 (x3 - 1))).toList) ((rdOf ByteArray.empty x0 x3).toList)) = true then (pred_rising.l0 k x0 (wrap64 (x3 + 1))) else (some false)) else (none)) else (none)) else (none)) else (some true)
def pred_rising.f (k : Nat) (l0 : List ByteArray) : Option (Bool) := pred_rising.l0 k l0 1
theorem pred_rising.mono_l : ∀ k, (∀ y0 y1, LeO (pred_rising.l0 k y0 y1) (pred_rising.l0 (k + 1) y0 y1))
 | 0 => fun _ _ r h => by simp [pred_rising.l0] at h
 | k + 1 => by
  have ih0 := pred_rising.mono_l k
  ·intro y0 y1
   unfold pred_rising.l0
   repeat' first
   | (with_reducible exact ih0 _ _)
   | (with_reducible exact LeO.refl _)
   | (with_reducible exact LeO.none _)
   | (with_reducible refine LeO.ite ?_ ?_)
   | (with_reducible refine LeO.bind ?_ (fun _ => ?_))
   | exact ih0 _ _
   | exact LeO.none _
   | refine LeO.ite ?_ ?_
   | refine LeO.bind ?_ (fun _ => ?_)
theorem pred_rising.mono : ∀ a0 k, LeO (pred_rising.f k a0) (pred_rising.f (k + 1) a0) := by
 intro a0 k
 have ih0 := pred_rising.mono_l k
 unfold pred_rising.f
 repeat' first
   | (with_reducible exact ih0 _ _)
   | (with_reducible exact LeO.refl _)
   | (with_reducible exact LeO.none _)
   | (with_reducible refine LeO.ite ?_ ?_)
   | (with_reducible refine LeO.bind ?_ (fun _ => ?_))
   | exact ih0 _ _
   | exact LeO.none _
   | refine LeO.ite ?_ ?_
   | refine LeO.bind ?_ (fun _ => ?_)
set_option maxHeartbeats 8000000 in
set_option maxRecDepth 100000 in
theorem pred_rising.calls (k : Nat) (A0 : Option Addr) (c0 : Nat) (l0 : List ByteArray) (r : Bool) (w : World) (hr0 : Kd.C Kd.string w A0 l0.length l0) (hc0 : l0.length ≤ c0) (h : pred_rising.f k l0 = some r) :
  Calls Try.prog 52 #[.slice A0 l0.length c0] w fun e w' => e = .returned (.bool r) ∧ Drawn0 w w' := by
 have HR0 := zM hr0
 have HC0 := zM hc0
 clear hr0 hc0
 have H : (pred_rising.l0 k l0 1) = some r := h
 clear h
 have H' := Aside0.mk H
 clear H
 go_enter Try.func52, Try.ntmps52
 go_wp2
 repeat (go_quiet (fail); try go_wp2)
 go_loopg [3] k (fun kq v3 w' => ∃ (x3_1 : Int), v3 = .int .i64 x3_1 ∧ Aside0 (pred_rising.l0 kq l0 x3_1 = some r) ∧ Aside0 (kq ≤ k) ∧ Drawn0 w w')
 case atStart => exact ⟨(1), ya, H', ⟨Nat.le_refl _⟩, by repeat (first | exact Drawn0.refl _ | apply Drawn0.step)⟩
 case round =>
  clear H'
  obtain ⟨x3_1, rfl, HA, HK1, ⟨m1, rfl⟩⟩ := hrel
  cases gk with
  | zero => exact absurd HA.out (by simp [pred_rising.l0])
  | succ k1 =>
   have H := HA.out
   clear HA
   simp only [pred_rising.l0] at H
   by_cases c2 : x3_1 < (l0.length : Int)
   ·rw [if_pos c2] at H
    have c2b0 : decide (x3_1 < (l0.length : Int)) = true := decide_eq_true c2
    clear c2
    obtain ⟨ji3, hji3⟩ : ∃ j_ : Int, (wrap64 (x3_1 - 1)) = j_ := ⟨_, rfl⟩
    replace H : (if 0 ≤ (ji3) then (if (ji3) < (l0.length : Int) then (if 0 ≤ x3_1 then (if (Op.bytesLess ((rdOf ByteArray.empty l0 (ji3)).toList) ((rdOf ByteArray.empty l0 x3_1).toList)) = true then (pred_rising.l0 k1 l0 (wrap64 (x3_1 + 1))) else (some false)) else (none)) else (none)) else (none)) = some r := by first | (rw [hji3] at H; exact H) | (simp only [hji3] at H ⊢; exact H)
    have hji3w : (IntKind.i64.wrap (x3_1 - 1)) = ji3 := (i64_w _).trans hji3
    by_cases c4 : 0 ≤ (ji3)
    ·rw [if_pos c4] at H
     have c4b0 : decide (0 ≤ (ji3)) = true := decide_eq_true c4
     clear c4
     by_cases c5 : (ji3) < (l0.length : Int)
     ·rw [if_pos c5] at H
      have c5b0 : decide ((ji3) < (l0.length : Int)) = true := decide_eq_true c5
      clear c5
      by_cases c6 : 0 ≤ x3_1
      ·rw [if_pos c6] at H
       have c6b0 : decide (0 ≤ x3_1) = true := decide_eq_true c6
       clear c6
       by_cases c7 : (Op.bytesLess ((rdOf ByteArray.empty l0 (ji3)).toList) ((rdOf ByteArray.empty l0 x3_1).toList)) = true
       ·rw [if_pos c7] at H
        have c7b0 : (Op.bytesLess ((rdOf ByteArray.empty l0 (ji3)).toList) ((rdOf ByteArray.empty l0 x3_1).toList)) = true := c7
        clear c7
        have H' := Aside0.mk H
        clear H
        have p131 : 0 ≤ ((ji3) : Int) := zA
        have q131 : (ji3) < (l0.length : Int) := zA
        obtain ⟨ad131, e131, hx131_0⟩ := Kd.at_string HR0.out (ji3) p131 q131
        cases e131
        replace p131 := eq_true p131
        replace q131 := eq_true q131
        have p132 : 0 ≤ (x3_1 : Int) := zA
        have q132 : x3_1 < (l0.length : Int) := zA
        obtain ⟨ad132, e132, hx132_0⟩ := Kd.at_string HR0.out x3_1 p132 q132
        obtain rfl : ad131 = ad132 := (by injection e132)
        replace p132 := eq_true p132
        replace q132 := eq_true q132
        go_wp2
        repeat (go_quiet (fail); try go_wp2)
        go_roundg k1
        case measure => have := HK1.out; omega
        case rel => exact ⟨(wrap64 (x3_1 + 1)), ya, H', ⟨by have := HK1.out; omega⟩, by repeat (first | exact Drawn0.refl _ | apply Drawn0.step)⟩
       rw [if_neg c7] at H
       have c7b0 : (Op.bytesLess ((rdOf ByteArray.empty l0 (ji3)).toList) ((rdOf ByteArray.empty l0 x3_1).toList)) = false := by simpa using c7
       clear c7
       obtain rfl := Option.some.inj H
       have p131 : 0 ≤ ((ji3) : Int) := zA
       have q131 : (ji3) < (l0.length : Int) := zA
       obtain ⟨ad131, e131, hx131_0⟩ := Kd.at_string HR0.out (ji3) p131 q131
       cases e131
       replace p131 := eq_true p131
       replace q131 := eq_true q131
       have p132 : 0 ≤ (x3_1 : Int) := zA
       have q132 : x3_1 < (l0.length : Int) := zA
       obtain ⟨ad132, e132, hx132_0⟩ := Kd.at_string HR0.out x3_1 p132 q132
       obtain rfl : ad131 = ad132 := (by injection e132)
       replace p132 := eq_true p132
       replace q132 := eq_true q132
       go_wp2
       repeat (go_quiet (fail); try go_wp2)
       go_ret
       exact ⟨by first | rfl | (simp; done) | (simp only [← hji3] <;> (first | rfl | simp)) | (simp [*]; done), by repeat (first | exact Drawn0.refl _ | apply Drawn0.step)⟩
      rw [if_neg c6] at H
      exact absurd H (by simp)
     rw [if_neg c5] at H
     exact absurd H (by simp)
    rw [if_neg c4] at H
    exact absurd H (by simp)
   rw [if_neg c2] at H
   have c2b0 : decide (x3_1 < (l0.length : Int)) = false := decide_eq_false c2
   clear c2
   obtain rfl := Option.some.inj H
   go_wp2
   repeat (go_quiet (fail); try go_wp2)
   go_ret
   exact ⟨by first | rfl | (simp; done) | (simp [*]; done), by repeat (first | exact Drawn0.refl _ | apply Drawn0.step)⟩

end Go.Proofs.Ytalpcnomfebdiaa.QPredRules
