/- The calls of a law (Ask): how they lie in memory, how they are read; two lists of texts held against one another. -/
import Derived.Test.YtoninmgglcepmaaDH
import Derived.Test.YtoninmgglcepmaaOpens
import Derived.Deep.QuietTactic
import Derived.Laws.Cover1
namespace Go.Proofs.Ytoninmgglcepmaa.Dk
open Go.ChangeMaps hiding rd
open RegD Go.RowKit Go.Proofs.YtoninmgglcepmaaW.PrintWords Go.Proofs.YtoninmgglcepmaaW.PrintLast Go.Proofs.YtoninmgglcepmaaW.PrintMore Mp
attribute [local go_sem] max2_int min2_int max_two min_two max_three min_three max_four min_four
set_option linter.unusedVariables false
set_option linter.unusedSimpArgs false
/-- A call: Kind, N, From, To, B, With. -/
structure S43 where
  f0 : Int
  f1 : Int
  f2 : ByteArray
  f3 : ByteArray
  f4 : List Int
  f5 : Int
def z43 : S43 := ⟨0, 0, ByteArray.empty, ByteArray.empty, [], 0⟩
def k43 : Kd S43 := Kd.iso (Kd.pair (Kd.int .i64) (Kd.pair (Kd.int .i64) (Kd.pair Kd.string (Kd.pair Kd.string (Kd.pair (Kd.slice 5 (Kd.int .u8)) (Kd.int .u8)))))) (fun x : S43 => (x.f0, x.f1, x.f2, x.f3, x.f4, x.f5))
theorem k43_open {w : World} {x : S43} {cs : List Value} (h : k43.K w x cs) : ∃ A4 c4, cs = [.int .i64 x.f0, .int .i64 x.f1, .string x.f2, .string x.f3, .slice A4 x.f4.length c4, .int .u8 x.f5] ∧ x.f4.length ≤ c4 ∧ (Kd.int .u8).C w A4 x.f4.length x.f4 := by
  obtain ⟨_, _, rfl, rfl, _, _, rfl, rfl, _, _, rfl, rfl, _, _, rfl, rfl, _, _, rfl, ⟨A4, c4, rfl, h1, h2⟩, rfl⟩ := h
  exact ⟨A4, c4, rfl, h1, h2⟩
def rd_T43 (xs : List S43) (i : Int) : S43 := xs.getD i.toNat z43
theorem at_T43 {w : World} {A : Option Addr} {n : Nat} {xs : List S43} (h : Kd.C k43 w A n xs) (i : Int) (h0 : 0 ≤ i) (h1 : i < n) : ∃ ad A4 c4, A = some ad ∧ w.cell? (ad.add (i.toNat * 6)) = some (.int .i64 (rd_T43 xs i).f0) ∧
    w.cell? ⟨(ad.add (i.toNat * 6)).block, (ad.add (i.toNat * 6)).off + 1, none⟩ = some (.int .i64 (rd_T43 xs i).f1) ∧ w.cell? ⟨(ad.add (i.toNat * 6)).block, (ad.add (i.toNat * 6)).off + 2, none⟩ = some (.string (rd_T43 xs i).f2) ∧
    w.cell? ⟨(ad.add (i.toNat * 6)).block, (ad.add (i.toNat * 6)).off + 3, none⟩ = some (.string (rd_T43 xs i).f3) ∧ w.cell? ⟨(ad.add (i.toNat * 6)).block, (ad.add (i.toNat * 6)).off + 4, none⟩ = some (.slice A4 (rd_T43 xs i).f4.length c4) ∧
    w.cell? ⟨(ad.add (i.toNat * 6)).block, (ad.add (i.toNat * 6)).off + 5, none⟩ = some (.int .u8 (rd_T43 xs i).f5) ∧ (rd_T43 xs i).f4.length ≤ c4 ∧ (Kd.int .u8).C w A4 (rd_T43 xs i).f4.length (rd_T43 xs i).f4 := by
  obtain ⟨ad, c, e, _, hK, hc0⟩ := Kd.C_get h z43 i h0 h1
  have hc : ∀ j u, c[j]? = some u → w.cell? (ad.add (i.toNat * 6 + j)) = some u := hc0
  obtain ⟨A4, c4, rfl, h4, g4⟩ := k43_open hK
  exact ⟨ad, A4, c4, e, hc 0 _ rfl, by rw [← add_field _ _ 1 (by omega)]; exact hc 1 _ rfl, by rw [← add_field _ _ 2 (by omega)]; exact hc 2 _ rfl, by rw [← add_field _ _ 3 (by omega)]; exact hc 3 _ rfl, by rw [← add_field _ _ 4 (by omega)]; exact hc 4 _ rfl, by rw [← add_field _ _ 5 (by omega)]; exact hc 5 _ rfl, h4, g4⟩
def ok43 (x : S43) : Prop := (Lit.int .i64 x.f0).wf = true ∧ (Lit.int .i64 x.f1).wf = true ∧ x.f2.size ≤ maxLen ∧ x.f3.size ≤ maxLen ∧ (x.f4.length ≤ maxLen ∧ ∀ b ∈ x.f4, (Lit.int .u8 b).wf = true) ∧ (Lit.int .u8 x.f5).wf = true
open Opens in
set_option maxRecDepth 100000 in
theorem opens_T43 : Opens k43 Try.prog 43 (fun x => ok43 x) := by
  intro H enc w fuel cs x h
  obtain ⟨xs, m, em, _, hl, hxl0, hx⟩ := DataW.trod_struct Try.underlying43 h
  rw [show Try.prog.cellsOf 43 = 6 from by kernel_rfl] at hl
  have hxl : xs.length = 6 := hxl0
  obtain ⟨c0, c1, c2, c3, c4, c5, rfl⟩ : ∃ c0 c1 c2 c3 c4 c5, cs = [c0, c1, c2, c3, c4, c5] := by
    match cs, hl with
    | [c0, c1, c2, c3, c4, c5], _ => exact ⟨_, _, _, _, _, _, rfl⟩
  have h0 : DataW.trod enc Try.prog w 0 (fun _ => true) true m 3 [c0] = xs[0]? := by
    have h_ : DataW.trod enc Try.prog w 0 (fun _ => true) true m 3 (List.take (Try.prog.cellsOf 3) (List.drop 0 [c0, c1, c2, c3, c4, c5])) = xs[0]? := hx 0 _ rfl
    rw [show Try.prog.cellsOf 3 = 1 from by kernel_rfl] at h_
    exact h_
  rw [List.getElem?_eq_getElem (by omega)] at h0
  obtain ⟨a0, K0, o0⟩ := (opens_int Try.underlying3) enc w m _ _ h0
  have h1 : DataW.trod enc Try.prog w 0 (fun _ => true) true m 3 [c1] = xs[1]? := by
    have h_ : DataW.trod enc Try.prog w 0 (fun _ => true) true m 3 (List.take (Try.prog.cellsOf 3) (List.drop 1 [c0, c1, c2, c3, c4, c5])) = xs[1]? := hx 1 _ rfl
    rw [show Try.prog.cellsOf 3 = 1 from by kernel_rfl] at h_
    exact h_
  rw [List.getElem?_eq_getElem (by omega)] at h1
  obtain ⟨a1, K1, o1⟩ := (opens_int Try.underlying3) enc w m _ _ h1
  have h2 : DataW.trod enc Try.prog w 0 (fun _ => true) true m 9 [c2] = xs[2]? := by
    have h_ : DataW.trod enc Try.prog w 0 (fun _ => true) true m 9 (List.take (Try.prog.cellsOf 9) (List.drop 2 [c0, c1, c2, c3, c4, c5])) = xs[2]? := hx 2 _ rfl
    rw [show Try.prog.cellsOf 9 = 1 from by kernel_rfl] at h_
    exact h_
  rw [List.getElem?_eq_getElem (by omega)] at h2
  obtain ⟨a2, K2, o2⟩ := (opens_string Try.underlying9) enc w m _ _ h2
  have h3 : DataW.trod enc Try.prog w 0 (fun _ => true) true m 9 [c3] = xs[3]? := by
    have h_ : DataW.trod enc Try.prog w 0 (fun _ => true) true m 9 (List.take (Try.prog.cellsOf 9) (List.drop 3 [c0, c1, c2, c3, c4, c5])) = xs[3]? := hx 3 _ rfl
    rw [show Try.prog.cellsOf 9 = 1 from by kernel_rfl] at h_
    exact h_
  rw [List.getElem?_eq_getElem (by omega)] at h3
  obtain ⟨a3, K3, o3⟩ := (opens_string Try.underlying9) enc w m _ _ h3
  have h4 : DataW.trod enc Try.prog w 0 (fun _ => true) true m 29 [c4] = xs[4]? := by
    have h_ : DataW.trod enc Try.prog w 0 (fun _ => true) true m 29 (List.take (Try.prog.cellsOf 29) (List.drop 4 [c0, c1, c2, c3, c4, c5])) = xs[4]? := hx 4 _ rfl
    rw [show Try.prog.cellsOf 29 = 1 from by kernel_rfl] at h_
    exact h_
  rw [List.getElem?_eq_getElem (by omega)] at h4
  obtain ⟨a4, K4, o4⟩ := (opens_slice Try.underlying29 (by kernel_rfl) (opens_int Try.underlying5)) enc w m _ _ h4
  have h5 : DataW.trod enc Try.prog w 0 (fun _ => true) true m 5 [c5] = xs[5]? := by
    have h_ : DataW.trod enc Try.prog w 0 (fun _ => true) true m 5 (List.take (Try.prog.cellsOf 5) (List.drop 5 [c0, c1, c2, c3, c4, c5])) = xs[5]? := hx 5 _ rfl
    rw [show Try.prog.cellsOf 5 = 1 from by kernel_rfl] at h_
    exact h_
  rw [List.getElem?_eq_getElem (by omega)] at h5
  obtain ⟨a5, K5, o5⟩ := (opens_int Try.underlying5) enc w m _ _ h5
  exact ⟨⟨a0, a1, a2, a3, a4, a5⟩, ⟨[c0], [c1, c2, c3, c4, c5], rfl, K0, ⟨[c1], [c2, c3, c4, c5], rfl, K1, ⟨[c2], [c3, c4, c5], rfl, K2, ⟨[c3], [c4, c5], rfl, K3, ⟨[c4], [c5], rfl, K4, K5⟩⟩⟩⟩⟩, ⟨o0, o1, o2, o3, o4, o5⟩⟩
/-! ### columbariumkeep_Texts: function 22 -/
def columbariumkeep_Texts.l0 : Nat → List ByteArray → List ByteArray → Int → Option (Bool)
  | 0, _, _, _ => none
  | k + 1, x0, x1, x5 => if x5 < (x0.length : Int) then (if 0 ≤ x5 then (if x5 < (x1.length : Int) then (if (rdOf ByteArray.empty x0 x5).toList = (rdOf ByteArray.empty x1 x5).toList then (columbariumkeep_Texts.l0 k x0 x1 (wrap64 (x5 + 1))) else (some false)) else (none)) else (none)) else (some true)
def columbariumkeep_Texts.f (k : Nat) (l0 : List ByteArray) (l1 : List ByteArray) : Option (Bool) := if (l0.length : Int) = (l1.length : Int) then (columbariumkeep_Texts.l0 k l0 l1 0) else (some false)
theorem columbariumkeep_Texts.mono_l : ∀ k, (∀ y0 y1 y2, LeO (columbariumkeep_Texts.l0 k y0 y1 y2) (columbariumkeep_Texts.l0 (k + 1) y0 y1 y2))
  | 0 => fun _ _ _ r h => by simp [columbariumkeep_Texts.l0] at h
  | k + 1 => by
    have ih0 := columbariumkeep_Texts.mono_l k
    · intro y0 y1 y2
      unfold columbariumkeep_Texts.l0
      repeat' first
      | (with_reducible exact ih0 _ _ _)
      | (with_reducible exact LeO.refl _)
      | (with_reducible exact LeO.none _)
      | (with_reducible refine LeO.ite ?_ ?_)
      | (with_reducible refine LeO.bind ?_ (fun _ => ?_))
      | exact ih0 _ _ _
      | exact LeO.none _
      | refine LeO.ite ?_ ?_
      | refine LeO.bind ?_ (fun _ => ?_)
theorem columbariumkeep_Texts.mono : ∀ a0 a1 k, LeO (columbariumkeep_Texts.f k a0 a1) (columbariumkeep_Texts.f (k + 1) a0 a1) := by
  intro a0 a1 k
  have ih0 := columbariumkeep_Texts.mono_l k
  unfold columbariumkeep_Texts.f
  repeat' first
      | (with_reducible exact ih0 _ _ _)
      | (with_reducible exact LeO.refl _)
      | (with_reducible exact LeO.none _)
      | (with_reducible refine LeO.ite ?_ ?_)
      | (with_reducible refine LeO.bind ?_ (fun _ => ?_))
      | exact ih0 _ _ _
      | exact LeO.none _
      | refine LeO.ite ?_ ?_
      | refine LeO.bind ?_ (fun _ => ?_)
set_option maxHeartbeats 8000000 in
set_option maxRecDepth 100000 in
theorem columbariumkeep_Texts.calls (k : Nat) (A0 : Option Addr) (c0 : Nat) (l0 : List ByteArray) (A1 : Option Addr) (c1 : Nat) (l1 : List ByteArray) (r : Bool) (w : World) (hr0 : Kd.C Kd.string w A0 l0.length l0) (hc0 : l0.length ≤ c0) (hr1 : Kd.C Kd.string w A1 l1.length l1) (hc1 : l1.length ≤ c1) (h : columbariumkeep_Texts.f k l0 l1 = some r) :
    Calls Try.prog 22 #[.slice A0 l0.length c0, .slice A1 l1.length c1] w fun e w' => e = .returned (.bool r) ∧ Drawn0 w w' := by
  have HR0 := Aside0.mk hr0
  have HC0 := Aside0.mk hc0
  clear hr0 hc0
  have HR1 := Aside0.mk hr1
  have HC1 := Aside0.mk hc1
  clear hr1 hc1
  have H : (if (l0.length : Int) = (l1.length : Int) then (columbariumkeep_Texts.l0 k l0 l1 0) else (some false)) = some r := h
  clear h
  by_cases c3 : (l0.length : Int) = (l1.length : Int)
  · rw [if_pos c3] at H
    have c3b0 : ((l0.length : Int) == (l1.length : Int)) = true := beq_iff_eq.mpr c3
    have c3b1 : ((l0.length : Int) != (l1.length : Int)) = false := bne_eq_false_iff_eq.mpr c3
    have c3b2 : (l0.length == l1.length) = true := by first | simpa using c3 | (simp at c3 ⊢; omega)
    clear c3
    have H' := Aside0.mk H
    clear H
    go_enter Try.func22, Try.ntmps22
    go_wp2
    repeat (go_quiet (fail); try go_wp2)
    go_loopg [5] k (fun kq v5 w' => ∃ (x5_1 : Int), v5 = .int .i64 x5_1 ∧ Aside0 (columbariumkeep_Texts.l0 kq l0 l1 x5_1 = some r) ∧ Aside0 (kq ≤ k) ∧ Drawn0 w w')
    case atStart => exact ⟨(0), (by first | rfl | (simp; done) | (simp [*]; done)), H', ⟨Nat.le_refl _⟩, by repeat (first | exact Drawn0.refl _ | apply Drawn0.step)⟩
    case round =>
      clear H'
      try clear c1
      try clear c2
      try clear p2
      try clear c3
      try clear c3b0
      try clear c3b1
      try clear c3b2
      obtain ⟨x5_1, rfl, HA, HK1, ⟨m1, rfl⟩⟩ := hrel
      cases gk with
      | zero => exact absurd HA.out (by simp [columbariumkeep_Texts.l0])
      | succ k1 =>
        have H := HA.out
        clear HA
        simp only [columbariumkeep_Texts.l0] at H
        by_cases c4 : x5_1 < (l0.length : Int)
        · rw [if_pos c4] at H
          have c4b0 : decide (x5_1 < (l0.length : Int)) = true := decide_eq_true c4
          clear c4
          by_cases c5 : 0 ≤ x5_1
          · rw [if_pos c5] at H
            have c5b0 : decide (0 ≤ x5_1) = true := decide_eq_true c5
            clear c5
            by_cases c6 : x5_1 < (l1.length : Int)
            · rw [if_pos c6] at H
              have c6b0 : decide (x5_1 < (l1.length : Int)) = true := decide_eq_true c6
              clear c6
              by_cases c7 : (rdOf ByteArray.empty l0 x5_1).toList = (rdOf ByteArray.empty l1 x5_1).toList
              · rw [if_pos c7] at H
                have c7b0 : ((rdOf ByteArray.empty l0 x5_1).toList == (rdOf ByteArray.empty l1 x5_1).toList) = true := beq_iff_eq.mpr c7
                have c7b1 : ((rdOf ByteArray.empty l0 x5_1).toList != (rdOf ByteArray.empty l1 x5_1).toList) = false := bne_eq_false_iff_eq.mpr c7
                clear c7
                have H' := Aside0.mk H
                clear H
                have p101 : 0 ≤ (x5_1 : Int) := of_decide_eq_true (by first | (with_reducible assumption) | assumption)
                have q101 : x5_1 < (l0.length : Int) := of_decide_eq_true (by first | (with_reducible assumption) | assumption)
                obtain ⟨ad101, e101, hx101_0⟩ := Kd.at_string HR0.out x5_1 p101 q101
                cases e101
                replace p101 := eq_true p101
                replace q101 := eq_true q101
                have p102 : 0 ≤ (x5_1 : Int) := of_decide_eq_true (by first | (with_reducible assumption) | assumption)
                have q102 : x5_1 < (l1.length : Int) := of_decide_eq_true (by first | (with_reducible assumption) | assumption)
                obtain ⟨ad102, e102, hx102_0⟩ := Kd.at_string HR1.out x5_1 p102 q102
                cases e102
                replace p102 := eq_true p102
                replace q102 := eq_true q102
                go_wp2
                repeat (go_quiet (fail); try go_wp2)
                go_roundg k1
                case measure => have := HK1.out; omega
                case rel => exact ⟨(wrap64 (x5_1 + 1)), (by first | rfl | (simp; done) | (simp [*]; done)), H', ⟨by have := HK1.out; omega⟩, by repeat (first | exact Drawn0.refl _ | apply Drawn0.step)⟩
              · rw [if_neg c7] at H
                have c7b0 : ((rdOf ByteArray.empty l0 x5_1).toList == (rdOf ByteArray.empty l1 x5_1).toList) = false := beq_eq_false_iff_ne.mpr c7
                have c7b1 : ((rdOf ByteArray.empty l0 x5_1).toList != (rdOf ByteArray.empty l1 x5_1).toList) = true := bne_iff_ne.mpr c7
                obtain rfl := Option.some.inj H
                have p101 : 0 ≤ (x5_1 : Int) := of_decide_eq_true (by first | (with_reducible assumption) | assumption)
                have q101 : x5_1 < (l0.length : Int) := of_decide_eq_true (by first | (with_reducible assumption) | assumption)
                obtain ⟨ad101, e101, hx101_0⟩ := Kd.at_string HR0.out x5_1 p101 q101
                cases e101
                replace p101 := eq_true p101
                replace q101 := eq_true q101
                have p102 : 0 ≤ (x5_1 : Int) := of_decide_eq_true (by first | (with_reducible assumption) | assumption)
                have q102 : x5_1 < (l1.length : Int) := of_decide_eq_true (by first | (with_reducible assumption) | assumption)
                obtain ⟨ad102, e102, hx102_0⟩ := Kd.at_string HR1.out x5_1 p102 q102
                cases e102
                replace p102 := eq_true p102
                replace q102 := eq_true q102
                go_wp2
                repeat (go_quiet (fail); try go_wp2)
                go_ret
                exact ⟨by first | rfl | (simp; done) | (simp [*]; done), by repeat (first | exact Drawn0.refl _ | apply Drawn0.step)⟩
            · rw [if_neg c6] at H
              exact absurd H (by simp)
          · rw [if_neg c5] at H
            exact absurd H (by simp)
        · rw [if_neg c4] at H
          have c4b0 : decide (x5_1 < (l0.length : Int)) = false := decide_eq_false c4
          clear c4
          obtain rfl := Option.some.inj H
          go_wp2
          repeat (go_quiet (fail); try go_wp2)
          go_ret
          exact ⟨by first | rfl | (simp; done) | (simp [*]; done), by repeat (first | exact Drawn0.refl _ | apply Drawn0.step)⟩
  · rw [if_neg c3] at H
    have c3b0 : ((l0.length : Int) == (l1.length : Int)) = false := beq_eq_false_iff_ne.mpr c3
    have c3b1 : ((l0.length : Int) != (l1.length : Int)) = true := bne_iff_ne.mpr c3
    have c3b2 : (l0.length == l1.length) = false := by first | simpa using c3 | (simp at c3 ⊢; omega)
    obtain rfl := Option.some.inj H
    go_enter Try.func22, Try.ntmps22
    go_wp2
    repeat (go_quiet (fail); try go_wp2)
    go_ret
    exact ⟨by first | rfl | (simp; done) | (simp [*]; done), by repeat (first | exact Drawn0.refl _ | apply Drawn0.step)⟩

-- NOT PRINTED: function 7 (columbariumlaw18_DiskAgain)

theorem texts_l0 (l : List ByteArray) (hl : (l.length : Int) ≤ 1000000) : ∀ (k i : Nat), l.length < k + i → i ≤ l.length → columbariumkeep_Texts.l0 k l l (i : Int) = some true
  | 0, i, h, h2 => by omega
  | k + 1, i, h, h2 => by
    simp only [columbariumkeep_Texts.l0]
    by_cases hi : i < l.length
    · rw [if_pos (by omega), if_pos (by omega), if_pos (by omega), if_pos trivial, show wrap64 ((i : Int) + 1) = ((i + 1 : Nat) : Int) from by unfold wrap64; omega]
      exact texts_l0 l hl k (i + 1) (by omega) hi
    · rw [if_neg (by omega)]
/-- The same texts. -/
theorem textsC {w : World} {A0 A1 : Option Addr} {c0 c1 : Nat} {l : List ByteArray} (hl : l.length ≤ 1000000) (hr0 : Kd.C Kd.string w A0 l.length l) (hc0 : l.length ≤ c0) (hr1 : Kd.C Kd.string w A1 l.length l) (hc1 : l.length ≤ c1) :
    Calls Try.prog 22 #[.slice A0 l.length c0, .slice A1 l.length c1] w fun e w' => e = .returned (.bool true) ∧ Below w.heap.size w w' :=
  (columbariumkeep_Texts.calls (l.length + 1) A0 c0 l A1 c1 l true w hr0 hc0 hr1 hc1 (by
    unfold columbariumkeep_Texts.f
    rw [if_pos rfl]
    exact texts_l0 l (by omega) (l.length + 1) 0 (by omega) (Nat.zero_le _))).mono fun e w' ⟨he, hd⟩ => ⟨he, hd.below⟩
end Go.Proofs.Ytoninmgglcepmaa.Dk
