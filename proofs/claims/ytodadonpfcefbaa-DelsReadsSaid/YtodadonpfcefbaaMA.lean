/- Marks, written; and chapter 11's known runs. -/
import Derived.Test.YtodadonpfcefbaaMB
import Derived.Test.YtodadonpfcefbaaQDelsReadsx4
namespace Go.Proofs.Ytodadonpfcefbaa.Marks
open Go.RowKit Go.Proofs.YtodadonpfcefbaaW.PrintWords Go.Proofs.YtodadonpfcefbaaW.PrintLast Go.Proofs.YtodadonpfcefbaaW.PrintMore Go.Proofs.Ytodadonpfcefbaa.QDelsReads Go.Proofs.Ytodadonpfcefbaa.Base
attribute [local go_sem] max2_int min2_int max_two min_two max_three min_three max_four min_four
set_option linter.unusedVariables false
set_option linter.unusedSimpArgs false
/-- What Encode makes of a mark. -/
def bi (b : Bool) : Int := if b = true then 1 else 0
def encAt (l : List Bool) (i : Nat) : List Int := (l.take i).map bi ++ List.replicate (l.length - i) 0
theorem encAt_length {l : List Bool} {i : Nat} (h : i ≤ l.length) : (encAt l i).length = l.length := by simp [encAt]; omega
theorem encAt_step {l : List Bool} {i : Nat} (h : i < l.length) : encAt l (i + 1) = if l[i] = true then (encAt l i).set i 1 else encAt l i := by
  have e1 : l.take (i + 1) = l.take i ++ [l[i]] := by rw [List.take_add_one, List.getElem?_eq_getElem h]; rfl
  have e2 : List.replicate (l.length - i) (0 : Int) = 0 :: List.replicate (l.length - (i + 1)) 0 := by
    rw [show l.length - i = (l.length - (i + 1)) + 1 by omega, List.replicate_succ]
  have e3 : ((l.take i).map bi).length = i := by simp; omega
  unfold encAt
  rw [e1, e2, List.map_append, List.append_assoc]
  cases l[i] with
  | true =>
    rw [if_pos rfl, List.set_append_right _ _ (by omega), e3, Nat.sub_self]
    rfl
  | false =>
    rw [if_neg Bool.false_ne_true]
    rfl
section
variable {l : List Bool} {A : List Nat} (h : Good l A) {v p : List Int} {c : Int} (hb : Ev (fun k => runs_Encode.f k (l.map bi) 1) (v, c)) (hp : Ev (fun k => varint_Put.f k ([] : List Int) (IntKind.u64.wrap (l.length : Int))) p) (hs : p.length + v.length < 140737488355328)
include h hb hp hs
theorem enc_l0 (d : Nat) : ∀ i, l.length - i = d → i ≤ l.length → Ev (fun k => dels_Marks_Encode.l0 k (encAt l i) (l.length : Int) (i : Int) (l.length : Int) (ints A)) (p ++ v, (l.length : Int)) := by
  have hsm := h.small
  induction d with
  | zero =>
    intro i h1 h2
    have hi : i = l.length := by omega
    subst hi
    refine Ev.step (f := fun k => (runs_Encode.f k (l.map bi) 1).bind fun bt193 => ((varint_Put.f k ([] : List Int) (IntKind.u64.wrap (l.length : Int))).bind fun t197 => (if t197.length + bt193.1.length < 140737488355328 then (some ((t197 ++ bt193.1), (l.length : Int))) else (none)))) (fun k => ?_) (Ev.bind hb (Ev.bind hp (Ev.congr (fun k => if_pos hs) (Ev.now _))))
    rw [dels_Marks_Encode.l0, if_neg (by omega)]
    have e : encAt l l.length = l.map bi := by simp [encAt]
    rw [e]
  | succ d ih =>
    intro i h1 h2
    have hi : i < l.length := by omega
    have hsu := succ64 (j := i) (by omega)
    have e : hasL l (i : Int) = l[i] := by simp [hasL, hi]
    have hst := encAt_step hi
    refine Ev.step (f := fun k => dels_Marks_Encode.l0 k (encAt l (i + 1)) (l.length : Int) ((i + 1 : Nat) : Int) (l.length : Int) (ints A)) (fun k => ?_) (ih (i + 1) (by omega) (by omega))
    rw [dels_Marks_Encode.l0, if_pos (by omega), has_f h, Option.bind_some, e, hsu, hst]
    cases l[i] with
    | true => rw [if_pos rfl, if_pos rfl, if_pos (by omega), if_pos (by rw [encAt_length h2]; omega), Int.toNat_natCast]
    | false => rw [if_neg Bool.false_ne_true, if_neg Bool.false_ne_true]
theorem enc_f : Ev (fun k => dels_Marks_Encode.f k (l.length : Int) (ints A)) (p ++ v, (l.length : Int)) := by
  have hsm := h.small
  refine Ev.congr (f := fun k => dels_Marks_Encode.l0 k (encAt l 0) (l.length : Int) (0 : Nat) (l.length : Int) (ints A)) (fun k => ?_) (enc_l0 h hb hp hs l.length 0 (by omega) (by omega))
  unfold dels_Marks_Encode.f
  rw [if_pos (by omega), if_pos (by omega), Option.bind_some, List.length_replicate]
  simp [encAt]
end
theorem encC {w : World} {b g : Nat} {l : List Bool} (h : MkL w b g l) {v p : List Int} {c : Int} (hb : Ev (fun k => runs_Encode.f k (l.map bi) 1) (v, c)) (hp : Ev (fun k => varint_Put.f k ([] : List Int) (IntKind.u64.wrap (l.length : Int))) p) (hs : p.length + v.length < 140737488355328) :
    Calls Try.prog 18 #[.pointer (some ⟨g, 0, none⟩)] w fun e w' => ∃ v0_ : Value, e = .returned (v0_) ∧ Kd.R (Kd.int .u8) 5 w' w.heap.size (fun _ => True) v0_ (p ++ v) ∧ Below w.heap.size w w' := by
  obtain ⟨A, h1, h2⟩ := h
  obtain ⟨k, hk⟩ := (enc_f h2 hb hp hs).rounds
  exact encode_calls h1 hk
/-! ### known -/
theorem new3 (w : World) : Calls Try.prog 9 #[.int .i64 3] w fun e w' => ∃ b g, e = .returned (.tuple #[.pointer (some ⟨g, 0, none⟩), .int .i64 0]) ∧ MkL w' b g [false, false, false] ∧ w.heap.size ≤ b ∧ Below w.heap.size w w' := newC 3 w (by decide)
theorem known1 {w : World} {b g : Nat} (h : MkL w b g [false, false, false]) : Calls Try.prog 11 #[.pointer (some ⟨g, 0, none⟩), .int .i64 1] w fun e w' => e = .returned (.bool true) ∧ MkL w' b g [false, true, false] ∧ w.grownBy w' (some b) := setC h 1
theorem known2 {w : World} {b g : Nat} (h : MkL w b g [false, true, false]) : Calls Try.prog 11 #[.pointer (some ⟨g, 0, none⟩), .int .i64 1] w fun e w' => e = .returned (.bool false) ∧ MkL w' b g [false, true, false] ∧ w.grownBy w' (some b) := setC h 1
theorem known3 {w : World} {b g : Nat} (h : MkL w b g [false, true, false]) : Calls Try.prog 11 #[.pointer (some ⟨g, 0, none⟩), .int .i64 3] w fun e w' => e = .returned (.bool false) ∧ MkL w' b g [false, true, false] ∧ w.grownBy w' (some b) := setC h 3
theorem known4 {w : World} {b g : Nat} (h : MkL w b g [false, true, false]) : Calls Try.prog 13 #[.pointer (some ⟨g, 0, none⟩)] w fun e w' => ∃ v0_ : Value, e = .returned (v0_) ∧ Kd.R (Kd.int .i64) 3 w' w.heap.size (fun _ => True) v0_ [0, 2] ∧ Below w.heap.size w w' := leftC h
theorem known5 {w : World} {b g : Nat} (h : MkL w b g [false, true, false]) : Calls Try.prog 12 #[.pointer (some ⟨g, 0, none⟩)] w fun e w' => e = .returned (.int .i64 1) ∧ Below w.heap.size w w' := countC h
theorem enc3 : Ev (fun k => runs_Encode.f k (([false, true, false] : List Bool).map bi) 1) ([3, 2], 0) := Ev.of (runs_Encode.mono _ _) (k := 60) (by decide +kernel)
theorem put3 : Ev (fun k => varint_Put.f k ([] : List Int) (IntKind.u64.wrap ((([false, true, false] : List Bool).length : Nat) : Int))) [3] := Ev.of (varint_Put.mono _ _) (k := 5) (by decide +kernel)
theorem known6 {w : World} {b g : Nat} (h : MkL w b g [false, true, false]) : Calls Try.prog 18 #[.pointer (some ⟨g, 0, none⟩)] w fun e w' => ∃ v0_ : Value, e = .returned (v0_) ∧ Kd.R (Kd.int .u8) 5 w' w.heap.size (fun _ => True) v0_ [3, 3, 2] ∧ Below w.heap.size w w' := encC h enc3 put3 (by decide)
theorem same3 : columbariumbook_Same_int.f 5 [0, 2] [0, 2] = some true := by decide +kernel
theorem str3 : ((strOfNums [3, 3, 2]).toList == ([3, 3, 2] : List UInt8)) = true := by decide +kernel
theorem lit_C (w : World) : Kd.C (Kd.int .i64) (w.alloc (.cells #[.int .i64 0, .int .i64 2] 3)) (some ⟨w.heap.size, 0, none⟩) ([0, 2] : List Int).length [0, 2] := by
  have h := blk_new w (.cells #[.int .i64 0, .int .i64 2] 3)
  refine ⟨rfl, by decide, fun _ => ⟨⟨w.heap.size, 0, none⟩, rfl, fun j p hp => ⟨[.int .i64 p], rfl, rfl, fun i u hu => ?_⟩⟩⟩
  match i, hu with
  | 0, hu =>
    simp only [List.getElem?_cons_zero, Option.some.injEq] at hu
    subst hu
    have := blk_cell h j
    rw [show (Kd.int .i64).sz = 1 from rfl, Nat.mul_one, Nat.add_zero, show (⟨w.heap.size, 0, none⟩ : Addr).add j = ⟨w.heap.size, j, none⟩ from (by simp [Addr.add]; intro h; omega), this]
    match j, hp with
    | 0, hp => simp at hp; subst hp; rfl
    | 1, hp => simp at hp; subst hp; rfl
set_option maxHeartbeats 8000000 in
set_option maxRecDepth 100000 in
theorem knownC (w : World) : Calls Try.prog 15 #[] w fun e w' => e = .returned (.bool true) ∧ Below w.heap.size w w' := by
  have hstr := str3
  go_enter Try.func15, Try.ntmps15
  go_wp2_with (first
    | (go_at_call 9; (with_reducible refine (new3 _).mono ?_); rintro e w1 ⟨b, g, rfl, hm, hb, hB⟩; have HM1 := Aside0.mk hm; have Hb1 := Aside0.mk hb; have HB1 := Aside0.mk hB; clear hm hb hB)
    | (go_at_call 11; (with_reducible refine (known1 HM1.out).mono ?_); rintro e w2 ⟨rfl, hm, hg⟩; have HM2 := Aside0.mk hm; have HB2 := Aside0.mk (Below.grown HB1.out hg HB1.out.size (fun k hk => by injection hk with hk; rw [← hk]; exact Hb1.out)); clear hm hg)
    | (go_at_call 11; (with_reducible refine (known2 HM2.out).mono ?_); rintro e w3 ⟨rfl, hm, hg⟩; have HM3 := Aside0.mk hm; have HB3 := Aside0.mk (Below.grown HB2.out hg HB2.out.size (fun k hk => by injection hk with hk; rw [← hk]; exact Hb1.out)); clear hm hg)
    | (go_at_call 11; (with_reducible refine (known3 HM3.out).mono ?_); rintro e w4 ⟨rfl, hm, hg⟩; have HM4 := Aside0.mk hm; have HB4 := Aside0.mk (Below.grown HB3.out hg HB3.out.size (fun k hk => by injection hk with hk; rw [← hk]; exact Hb1.out)); clear hm hg)
    | (go_at_call 13; (with_reducible refine (known4 HM4.out).mono ?_); rintro e w5 ⟨v5, rfl, ho, hb⟩; have HM5 := Aside0.mk (HM4.out.below hb); have HB5 := Aside0.mk (below_step HB4.out hb); have HO5 := Aside0.mk ho; obtain ⟨A5, c5, e5⟩ := Kd.R_slice ho; subst e5; clear ho hb)
    | (go_at_call 23; refine (columbariumbook_Same_int.calls 5 A5 c5 [0, 2] (some ⟨w5.heap.size, 0, none⟩) 2 [0, 2] true (w5.alloc (.cells #[.int .i64 0, .int .i64 2] 3)) (Kd.C_alloc (Kd.R_reads' HO5.out).2.2 _) (Kd.R_reads' HO5.out).2.1 (lit_C w5) (by decide) same3).mono ?_; rintro e w7 ⟨rfl, hb⟩; have HM7 := Aside0.mk ((HM5.out.below (below_alloc (Below.refl _ _) _)).below hb.below); have HB7 := Aside0.mk (below_step (below_alloc HB5.out _) hb.below); clear hb)
    | (go_at_call 12; (with_reducible refine (known5 HM7.out).mono ?_); rintro e w8 ⟨rfl, hb⟩; have HM8 := Aside0.mk (HM7.out.below hb); have HB8 := Aside0.mk (below_step HB7.out hb); clear hb)
    | (go_at_call 18; (with_reducible refine (known6 HM8.out).mono ?_); rintro e w9 ⟨v9, rfl, ho, hb⟩; have HB9 := Aside0.mk (below_step HB8.out hb); have hcv := own_string (P := Try.prog) Try.underlying38 Try.underlying5 Try.underlying9 (Kd.own_of_R ho); clear ho hb))
  go_ret
  exact ⟨rfl, HB9.out⟩
end Go.Proofs.Ytodadonpfcefbaa.Marks

namespace Go.Proofs.Ytodadonpfcefbaa.Marks
open Go.RowKit Go.Proofs.YtodadonpfcefbaaW.PrintWords Go.Proofs.YtodadonpfcefbaaW.PrintLast Go.Proofs.YtodadonpfcefbaaW.PrintMore Go.Proofs.Ytodadonpfcefbaa.QDelsReads Go.Proofs.Ytodadonpfcefbaa.Base
set_option linter.unusedVariables false
set_option linter.unusedSimpArgs false
theorem within_some (n : Int) (hi : Nat) (h : hi < 1000000000) : ∃ r : Nat, r ≤ hi ∧ columbariumbook_Within.f n 0 (hi : Int) = some (r : Int) := by
  have e : wrap64 ((wrap64 ((hi : Int) - 0)) + 1) = ((hi + 1 : Nat) : Int) := by rw [w64 (x := (hi : Int) - 0) (by omega) (by omega), w64 (by omega) (by omega)]; omega
  have b1 := Int.tmod_lt_of_pos n (show (0 : Int) < ((hi + 1 : Nat) : Int) by omega)
  have b2 : -((hi + 1 : Nat) : Int) < Int.tmod n ((hi + 1 : Nat) : Int) := by
    have := Int.lt_tmod_of_pos n (show (0 : Int) < ((hi + 1 : Nat) : Int) by omega)
    omega
  unfold columbariumbook_Within.f
  rw [e, if_neg (by omega)]
  generalize Int.tmod n ((hi + 1 : Nat) : Int) = t at b1 b2 ⊢
  by_cases ht : t < 0
  · refine ⟨(t + hi + 1).toNat, by omega, ?_⟩
    rw [if_pos ht, w64 (x := t + (hi : Int)) (by omega) (by omega), w64 (x := t + (hi : Int) - 0) (by omega) (by omega), w64 (x := t + (hi : Int) - 0 + 1) (by omega) (by omega), w64 (by omega) (by omega)]
    congr 1
    omega
  · refine ⟨t.toNat, by omega, ?_⟩
    rw [if_neg ht, w64 (by omega) (by omega)]
    congr 1
    omega

theorem hasL_out {l : List Bool} {x : Int} (h : ¬ (0 ≤ x ∧ x < (l.length : Int))) : hasL l x = false := by
  unfold hasL
  by_cases c : 0 ≤ x
  · rw [getD_out (by omega), Bool.and_false]
  · rw [decide_eq_false c, Bool.false_and]
theorem fresh_eq (l : List Bool) (x : Int) : freshL l x = (decide (0 ≤ x) && decide (x < (l.length : Int)) && !hasL l x) := by
  unfold freshL hasL
  by_cases c : 0 ≤ x
  · have e : decide (x.toNat < l.length) = decide (x < (l.length : Int)) := by
      congr 1
      exact propext ⟨fun h => by omega, fun h => by omega⟩
    rw [decide_eq_true c, e]
    simp
  · simp [c]
theorem has_set (l : List Bool) (x : Int) : hasL (setL l x) x = (decide (0 ≤ x) && decide (x < (l.length : Int))) := by
  unfold setL hasL
  by_cases c : 0 ≤ x
  · rw [if_pos c, decide_eq_true c, List.getD_eq_getElem?_getD, List.getElem?_set]
    by_cases h : x.toNat < l.length
    · rw [if_pos rfl, if_pos h, decide_eq_true (by omega)]
      rfl
    · rw [if_pos rfl, if_neg h, decide_eq_false (by omega)]
      rfl
  · rw [decide_eq_false c]
    rfl
theorem count_set (l : List Bool) : ∀ p, (l.set p true).count true = l.count true + (if p < l.length ∧ l.getD p false = false then 1 else 0) := by
  induction l with
  | nil => intro p; simp
  | cons b r ih =>
    intro p
    cases p with
    | zero => cases b <;> simp
    | succ p =>
      have := ih p
      cases b <;> simp [List.count_cons] at this ⊢ <;> omega
theorem cnt_set (l : List Bool) (x : Int) : cntL (setL l x) = cntL l + (if freshL l x = true then 1 else 0) := by
  unfold cntL setL freshL
  by_cases c : 0 ≤ x
  · have := count_set l x.toNat
    rw [if_pos c, this]
    by_cases h1 : x.toNat < l.length
    · cases h2 : l.getD x.toNat false <;> simp [c, h1, h2]
    · simp [c, h1]
  · simp [c]
theorem cnt_range (l : List Bool) : 0 ≤ cntL l ∧ cntL l ≤ (l.length : Int) := by
  unfold cntL
  have := List.count_le_length (a := true) (l := l)
  omega
theorem left_len (l : List Bool) : ((leftL l).length : Int) + cntL l = (l.length : Int) := by
  have := leftFrom_length l 0
  unfold leftL cntL
  omega
theorem leftFrom_mem (l : List Bool) : ∀ (k : Nat) (y : Int), y ∈ leftFrom k l → (k : Int) ≤ y ∧ l.getD (y.toNat - k) false = false := by
  induction l with
  | nil => intro k y h; cases h
  | cons b r ih =>
    intro k y h
    cases b with
    | true =>
      obtain ⟨h1, h2⟩ := ih (k + 1) y h
      have e : y.toNat - k = (y.toNat - (k + 1)) + 1 := by omega
      exact ⟨by omega, by rw [e]; simpa using h2⟩
    | false =>
      simp only [leftFrom, List.mem_cons] at h
      rcases h with rfl | h
      · exact ⟨Int.le_refl _, by simp⟩
      · obtain ⟨h1, h2⟩ := ih (k + 1) y h
        have e : y.toNat - k = (y.toNat - (k + 1)) + 1 := by omega
        exact ⟨by omega, by rw [e]; simpa using h2⟩
theorem leftFrom_rise (l : List Bool) : ∀ k : Nat, (leftFrom k l).Pairwise (· < ·) := by
  induction l with
  | nil => intro k; exact List.Pairwise.nil
  | cons b r ih =>
    intro k
    cases b with
    | true => exact ih (k + 1)
    | false =>
      refine List.Pairwise.cons (fun y hy => ?_) (ih (k + 1))
      have := (leftFrom_mem r (k + 1) y hy).1
      omega
theorem left_has {l : List Bool} {i : Nat} {y : Int} (h : (leftL l)[i]? = some y) : hasL l y = false := by
  have := (leftFrom_mem l 0 y (List.mem_of_getElem? h)).2
  unfold hasL
  rw [show y.toNat = y.toNat - 0 from rfl, this, Bool.and_false]
theorem left_rise {l : List Bool} {i : Nat} {y z : Int} (h : (leftL l)[i]? = some y) (k : (leftL l)[i + 1]? = some z) : y < z := by
  obtain ⟨h1, h2⟩ := List.getElem?_eq_some_iff.1 h
  obtain ⟨k1, k2⟩ := List.getElem?_eq_some_iff.1 k
  rw [← h2, ← k2]
  exact (List.pairwise_iff_getElem.1 (leftFrom_rise l 0)) i (i + 1) h1 k1 (Nat.lt_succ_self i)
theorem cnt_new (n : Nat) : cntL (List.replicate n false) = 0 := by simp [cntL, List.count_replicate]
end Go.Proofs.Ytodadonpfcefbaa.Marks

namespace Go.Proofs.Ytodadonpfcefbaa.Marks
open Go.RowKit Go.Proofs.YtodadonpfcefbaaW.PrintWords Go.Proofs.YtodadonpfcefbaaW.PrintLast Go.Proofs.YtodadonpfcefbaaW.PrintMore Go.Proofs.Ytodadonpfcefbaa.QDelsReads Go.Proofs.Ytodadonpfcefbaa.Base
attribute [local go_sem] max2_int min2_int max_two min_two max_three min_three max_four min_four
set_option linter.unusedVariables false
set_option linter.unusedSimpArgs false
theorem grown_below {W w w' : World} {b : Nat} (h : Below W.heap.size W w) (hb : W.heap.size ≤ b) (hg : w.grownBy w' (some b)) : Below W.heap.size W w' :=
  Below.grown h hg h.size (fun k hk => by injection hk with hk; rw [← hk]; exact hb)
set_option maxHeartbeats 8000000 in
set_option maxRecDepth 100000 in
theorem partsC (a0 : Int) (A1 : Option Addr) (c1 : Nat) (l : List Int) (W : World) (hr1 : Kd.C (Kd.int .i64) W A1 l.length l) (hc1 : l.length ≤ c1) : Calls Try.prog 3 #[.int .i64 a0, .slice A1 l.length c1] W fun e w' => e = .returned (.bool true) ∧ Below W.heap.size W w' := by
  obtain ⟨N, hN, hwi⟩ := within_some a0 300 (by decide)
  have HN := Aside0.mk hN
  have HR := Aside0.mk hr1
  clear hr1 hc1 hN
  go_enter Try.func3, Try.ntmps3
  go_wp2_with (first
    | (go_at_call 8; refine (columbariumbook_Within.calls a0 0 300 _ _ hwi).mono ?_; rintro e w1 ⟨rfl, hd⟩; have HB1 := Aside0.mk hd.below; clear hd)
    | (go_at_call 9; refine (newC N _ (Nat.le_trans HN.out (by decide))).mono ?_; rintro e w2 ⟨b, g, rfl, hm, hb, hB⟩; have HM2 := Aside0.mk hm; have Hb := Aside0.mk (Nat.le_trans HB1.out.size hb); have HB2 := Aside0.mk (below_step HB1.out hB); clear hm hb hB))
  go_loopg [7, 8] 101 (fun kq v7 v8 w' => ∃ (ls : List Bool) (i : Nat), v7 = .int .i64 (cntL ls) ∧ v8 = .int .i64 (i : Int) ∧ Aside0 (i + kq = 101 ∧ i ≤ 100 ∧ i ≤ l.length ∧ ls.length = N) ∧ Aside0 (MkL w' b g ls) ∧ Aside0 (Below W.heap.size W w'))
  case atStart => exact ⟨List.replicate N false, 0, by rw [cnt_new], rfl, ⟨by simp⟩, HM2, HB2⟩
  case round =>
    clear HM2 HB2
    obtain ⟨ls, i, rfl, rfl, HI, HM, HB⟩ := hrel
    cases gk with
    | zero => have := HI.out; omega
    | succ k1 =>
      obtain ⟨ji, hji⟩ : ∃ j : Int, (i : Int) = j := ⟨_, rfl⟩
      rw [hji]
      have hlenN : (ls.length : Int) = (N : Int) := by have := HI.out; omega
      by_cases cc : i < l.length ∧ i < 100
      · obtain ⟨c1, c2⟩ := cc
        have c1b : decide (ji < (l.length : Int)) = true := decide_eq_true (by omega)
        · have c2b : decide (ji < 100) = true := decide_eq_true (by omega)
          have p0 : 0 ≤ ji := by omega
          have p1 : ji < (l.length : Int) := by omega
          obtain ⟨ad, e1, hx⟩ := Kd.at_int HR.out ji p0 p1
          cases e1
          generalize rd l ji = x at hx
          have HX := Aside0.mk hx
          clear hx
          have hx0 := pw_cell_below HB.out HX.out
          have hfr0 := fresh_eq ls x
          have hin0 := has_set ls x
          have hcn0 := cnt_set ls x
          have hcr := cnt_range ls
          have hl2 := setL_length ls x
          rw [hlenN] at hfr0 hin0
          have hrel2 : Aside0 (i + 1 + k1 = 101 ∧ i + 1 ≤ 100 ∧ i + 1 ≤ l.length ∧ (setL ls x).length = N) := ⟨by have := HI.out; omega⟩
          generalize hls2 : setL ls x = ls2 at hin0 hcn0 hl2 hrel2
          generalize hwas : hasL ls x = was at hfr0
          generalize hp : decide (0 ≤ x) = p at hfr0 hin0
          generalize hq : decide (x < (N : Int)) = q at hfr0 hin0
          have hw' : IntKind.i64.wrap (ji + 1) = ((i + 1 : Nat) : Int) := by rw [IntKind.wrap_i64]; omega
          have hn1 : IntKind.i64.wrap (cntL ls + 1) = cntL ls + 1 := by have hk := hlenN; have hk2 := HN.out; rw [IntKind.wrap_i64]; omega
          generalize hn : cntL ls = n at hcn0 hn1 hcr
          generalize hn2 : cntL ls2 = n2 at hcn0
          clear hcr hl2 hlenN c1 c2 hji
          replace p0 := eq_true p0
          replace p1 := eq_true p1
          rw [hfr0] at hcn0
          cases p <;> cases q <;> cases was
          all_goals (simp only [Bool.and_true, Bool.true_and, Bool.and_false, Bool.false_and, Bool.not_true, Bool.not_false, Bool.false_eq_true, eq_self, if_true, if_false, Int.add_zero] at hfr0 hin0 hcn0)
          all_goals subst hcn0
          all_goals (
            go_wp2_with (first
              | (go_at_call 10; (with_reducible refine (hasR HM.out x hwas).mono ?_); rintro e w3 ⟨rfl, hb⟩; have HM3 := Aside0.mk (HM.out.below hb); have HB3 := Aside0.mk (below_step HB.out hb); have hx3 := pw_cell_below HB3.out HX.out; clear hb)
              | (go_at_call 11; (with_reducible refine (setR HM3.out x hfr0 hls2).mono ?_); rintro e w4 ⟨rfl, hm, hg⟩; have HM4 := Aside0.mk hm; have HB4 := Aside0.mk (grown_below HB3.out Hb.out hg); have hx4 := pw_cell_below HB4.out HX.out; clear hm hg)
              | (go_at_call 10; (with_reducible refine (hasR HM4.out x hin0).mono ?_); rintro e w5 ⟨rfl, hb⟩; have HM5 := Aside0.mk (HM4.out.below hb); have HB5 := Aside0.mk (below_step HB4.out hb); have hx5 := pw_cell_below HB5.out HX.out; clear hb)
              | (go_at_call 12; (with_reducible refine (countR HM5.out hn2).mono ?_); rintro e w6 ⟨rfl, hb⟩; have HM6 := Aside0.mk (HM5.out.below hb); have HB6 := Aside0.mk (below_step HB5.out hb); clear hb))
            go_roundg k1
            case measure => omega
            case rel => exact ⟨ls2, i + 1, by first | rfl | (rw [hn2]; done) | (simp [hn2, hn1]; done), by first | rfl | (rw [hw']; done) | (simp [hw']; done), hrel2, HM6, HB6⟩)
      · have hcc : decide (ji < (l.length : Int)) = false ∨ (decide (ji < (l.length : Int)) = true ∧ decide (ji < 100) = false) := by
          by_cases c1 : i < l.length
          · exact .inr ⟨decide_eq_true (by omega), decide_eq_false (by omega)⟩
          · exact .inl (decide_eq_false (by omega))
        have hll := left_len ls
        have hcr := cnt_range ls
        have hN := HN.out
        have hsum : IntKind.i64.wrap (((leftL ls).length : Int) + cntL ls) = (N : Int) := by rw [IntKind.wrap_i64]; omega
        obtain ⟨jN, hjN⟩ : ∃ j : Int, j = ((N + 1 : Nat) : Int) := ⟨_, rfl⟩
        have hw1 : IntKind.i64.wrap ((N : Int) + 1) = jN := by rw [IntKind.wrap_i64]; omega
        have hnew := fun w => newC (N + 1) w (by omega)
        rw [← hjN] at hnew
        have hlfl : (leftL ls).length ≤ N := by omega
        have hmem := fun (i : Nat) (y : Int) (h : (leftL ls)[i]? = some y) => left_has h
        have hrise := fun (i : Nat) (y z : Int) (h : (leftL ls)[i]? = some y) (k : (leftL ls)[i + 1]? = some z) => left_rise h k
        have hlc := leftC HM.out
        have hne : (List.replicate (N + 1) false).length ≠ ls.length := by rw [List.length_replicate]; have := HI.out; omega
        generalize leftL ls = lf at hsum hlfl hmem hrise hlc
        generalize hn : cntL ls = n at hsum
        clear hll hcr hN cc hjN
        rcases hcc with c1b | ⟨c1b, c2b⟩
        all_goals (
          go_wp2_with (first
            | (go_at_call 13; (with_reducible refine hlc.mono ?_); rintro e w3 ⟨v3, rfl, ho, hb⟩; have HM3 := Aside0.mk (HM.out.below hb); have HB3 := Aside0.mk (below_step HB.out hb); obtain ⟨A3, c3, e3⟩ := Kd.R_slice ho; subst e3; have HO3 := Aside0.mk (Kd.R_reads' ho).2.2; clear ho hb hlc))
          clear c1b hji
          try clear c2b
          go_loopg [13] (lf.length + 1) (fun kq v13 w' => ∃ i : Nat, v13 = .int .i64 (i : Int) ∧ Aside0 (i + kq = lf.length + 1 ∧ i ≤ lf.length) ∧ Aside0 (Below w3.heap.size w3 w'))
          case atStart => exact ⟨0, rfl, ⟨by omega, by omega⟩, ⟨Below.refl _ _⟩⟩
          case round =>
            obtain ⟨i2, rfl, HI2, HB5⟩ := hrel
            have HM5 := Aside0.mk (HM3.out.below HB5.out)
            have HB6 := Aside0.mk (below_step HB3.out HB5.out)
            cases gk with
            | zero => have := HI2.out; omega
            | succ k2 =>
              obtain ⟨ji2, hji2⟩ : ∃ j : Int, (i2 : Int) = j := ⟨_, rfl⟩
              rw [hji2]
              by_cases c : i2 < lf.length
              · have cb : decide (ji2 < (lf.length : Int)) = true := decide_eq_true (by omega)
                have p0 : 0 ≤ ji2 := by omega
                have p1 : ji2 < (lf.length : Int) := by omega
                obtain ⟨ad, e1, hx⟩ := Kd.at_int HO3.out ji2 p0 p1
                cases e1
                replace hx := pw_cell_below HB5.out hx
                have hti : ji2.toNat = i2 := by omega
                have hget : lf[i2]? = some (rd lf ji2) := by simp [rd, hti, c]
                have hh := hmem i2 _ hget
                have hw' : IntKind.i64.wrap (ji2 + 1) = ((i2 + 1 : Nat) : Int) := by have := HN.out; rw [IntKind.wrap_i64]; omega
                have hrel2 : Aside0 (i2 + 1 + k2 = lf.length + 1 ∧ i2 + 1 ≤ lf.length) := ⟨by have := HI2.out; omega⟩
                by_cases c0 : i2 = 0
                · have c0b : decide (0 < ji2) = false := decide_eq_false (by omega)
                  generalize rd lf ji2 = y at hx hh
                  clear hget hti c hji2 c0
                  replace p0 := eq_true p0
                  replace p1 := eq_true p1
                  go_upto_region 22 with (fail)
                  go_quiet ((go_at_call 10; exact hasQ HM5.out _ _ hh))
                  go_wp2
                  go_roundg k2
                  case measure => omega
                  case rel => exact ⟨i2 + 1, by first | rfl | (rw [hw']; done) | (simp [hw']; done), hrel2, ⟨by repeat (first | exact HB5.out | apply pw_below_drewN | apply Below.drew)⟩⟩
                · have c0b : decide (0 < ji2) = true := decide_eq_true (by omega)
                  obtain ⟨jp, hjp⟩ : ∃ j : Int, j = ji2 - 1 := ⟨_, rfl⟩
                  have hwp : IntKind.i64.wrap (ji2 - 1) = jp := by have := HN.out; rw [IntKind.wrap_i64]; omega
                  have q0 : 0 ≤ jp := by omega
                  have q1 : jp < (lf.length : Int) := by omega
                  obtain ⟨ad2, e2, hx2⟩ := Kd.at_int HO3.out jp q0 q1
                  cases e2
                  replace hx2 := pw_cell_below HB5.out hx2
                  have htp : jp.toNat = i2 - 1 := by omega
                  have hgetp : lf[i2 - 1]? = some (rd lf jp) := by simp [rd, htp, show i2 - 1 < lf.length by omega]
                  have hlt := hrise (i2 - 1) _ _ hgetp (by rw [show i2 - 1 + 1 = i2 by omega]; exact hget)
                  generalize rd lf ji2 = y at hx hh hlt
                  generalize rd lf jp = z at hx2 hlt
                  have hcmp : decide (y ≤ z) = false := decide_eq_false (by omega)
                  clear hget hgetp hti htp c hji2 c0 hlt hjp
                  replace p0 := eq_true p0
                  replace p1 := eq_true p1
                  replace q0 := eq_true q0
                  replace q1 := eq_true q1
                  go_upto_region 22 with (fail)
                  go_quiet ((go_at_call 10; exact hasQ HM5.out _ _ hh))
                  go_wp2
                  go_roundg k2
                  case measure => omega
                  case rel => exact ⟨i2 + 1, by first | rfl | (rw [hw']; done) | (simp [hw']; done), hrel2, ⟨by repeat (first | exact HB5.out | apply pw_below_drewN | apply Below.drew)⟩⟩
              · have cb : decide (ji2 < (lf.length : Int)) = false := decide_eq_false (by omega)
                clear hji2 c
                go_wp2_with (first
                  | (go_at_call 9; (with_reducible refine (hnew _).mono ?_); rintro e w6 ⟨b2, g2, rfl, hm, hb, hB⟩; have HM6 := Aside0.mk hm; have HM7 := Aside0.mk (HM5.out.below hB); have HB7 := Aside0.mk (below_step HB6.out hB); clear hm hb hB)
                  | (go_at_call 14; (with_reducible refine (orBadC HM7.out HM6.out hne).mono ?_); rintro e w8 ⟨rfl, hb⟩; have HM8 := Aside0.mk (HM7.out.below hb); have HB8 := Aside0.mk (below_step HB7.out hb); clear hb)
                  | (go_at_call 12; (with_reducible refine (countR HM8.out hn).mono ?_); rintro e w9 ⟨rfl, hb⟩; have HB9 := Aside0.mk (below_step HB8.out hb); clear hb)
                  | (go_at_call 15; (with_reducible refine (knownC _).mono ?_); rintro e w10 ⟨rfl, hb⟩; have HB10 := Aside0.mk (below_step HB9.out hb); clear hb))
                go_ret
                exact ⟨rfl, HB10.out⟩)
theorem partsW (W : World) (a0 : Int) (w0 : (Lit.int .i64 a0).wf = true) (A1 : Option Addr) (c1 : Nat) (l : List Int) (hr1 : Kd.C (Kd.int .i64) W A1 l.length l) (hc1 : l.length ≤ c1) (hm : l.length ≤ maxLen) (hw : ∀ x ∈ l, (Lit.int .i64 x).wf = true) (hy : l.length * 8 ≤ 140737488351232) : Calls Try.prog 3 #[.int .i64 a0, .slice A1 l.length c1] W fun e w' => e = .returned (.bool true) ∧ Below W.heap.size W w' := partsC a0 A1 c1 l W hr1 hc1
end Go.Proofs.Ytodadonpfcefbaa.Marks

namespace Go.Proofs.Ytodadonpfcefbaa.Marks
open Go.RowKit Go.Proofs.YtodadonpfcefbaaW.PrintWords Go.Proofs.YtodadonpfcefbaaW.PrintLast Go.Proofs.YtodadonpfcefbaaW.PrintMore Go.Proofs.Ytodadonpfcefbaa.QDelsReads Go.Proofs.Ytodadonpfcefbaa.Base
attribute [local go_sem] max2_int min2_int max_two min_two max_three min_three max_four min_four
set_option linter.unusedVariables false
set_option linter.unusedSimpArgs false
/-! ### a row of yes and no in a block of its own -/
def Bk (w : World) (c : Nat) (l : List Bool) : Prop := w.heap[c]? = some (.cells (Array.mk (l.map Value.bool)) 4 (0, 0))
theorem Bk.cell {w : World} {c : Nat} {l : List Bool} (h : Bk w c l) {i : Nat} {x : Bool} (hx : l[i]? = some x) : w.cell? ⟨c, i, none⟩ = some (.bool x) := by
  rw [blk_cell h i]
  simp [hx]
theorem Bk.below {w W : World} {c : Nat} {l : List Bool} (h : Bk w c l) (hb : Below w.heap.size w W) : Bk W c l := blk_below h hb
theorem Bk.grown {w W : World} {c : Nat} {l : List Bool} {row : Option Nat} (h : Bk w c l) (hk : w.grownBy W row) (n1 : some c ≠ row) : Bk W c l := blk_grown h hk n1
theorem Bk.put {w : World} {c : Nat} {l : List Bool} (h : Bk w c l) (i : Nat) (v : Bool) : Bk (w.setCell ⟨c, i, none⟩ (.bool v)) c (l.set i v) := by
  unfold Bk
  rw [blk_set h i (.bool v)]
  simp [List.map_set]
theorem Bk.lt {w : World} {c : Nat} {l : List Bool} (h : Bk w c l) : c < w.heap.size := blk_lt h
theorem Bk.row {w : World} {c : Nat} {l : List Bool} (hl : l.length ≤ 9223372036854775807) (h : Bk w c l) : Kd.C Kd.bool w (some ⟨c, 0, none⟩) l.length l := by
  refine ⟨rfl, hl, fun _ => ⟨⟨c, 0, none⟩, rfl, fun j p hp => ⟨[.bool p], rfl, rfl, fun i u hu => ?_⟩⟩⟩
  match i, hu with
  | 0, hu =>
    simp only [List.getElem?_cons_zero, Option.some.injEq] at hu
    subst hu
    have := h.cell hp
    rw [show Kd.bool.sz = 1 from rfl, Nat.mul_one, Nat.add_zero, show (⟨c, 0, none⟩ : Addr).add j = ⟨c, j, none⟩ from (by simp [Addr.add]; intro h; omega), this]
theorem MkL.ne {w : World} {b g c : Nat} {l o : List Bool} (h : MkL w b g l) (k : Bk w c o) : b ≠ c ∧ g ≠ c := by
  obtain ⟨A, h1, h2⟩ := h
  exact ⟨blk_ne h1.2.2.1 k (by decide), blk_ne h1.2.2.2 k (by decide)⟩
theorem madeCells_bool (m : Nat) : madeCells (Value.bool false).cells (m * 1) = Array.mk ((List.replicate m false).map Value.bool) := by
  apply Array.ext
  · simp [size_madeCells]
  · intro i h1 h2
    simp [madeCells, Value.cells, Nat.mod_one]
theorem info4 : (Try.prog.info? 4).map (fun i => (i.zero, i.size, i.bytes)) = some (some (.bool false), 1, 1) := by kernel_rfl
theorem make_bools {P : Program} {ops : Array Oper} {Q : Exit → Act → World → Prop} {rest : List Oper} {o : Oper} {a : Act} {W : World} (hgd : o.guard = none) (t : TypeId) (x y : Operand) (ho : o.op = .makeSlice t x y) (m : Nat) (hx : a.eval x = .int .i64 (m : Int)) (hy : a.eval y = .int .i64 (m : Int)) (e : TypeId) (ht : P.underlying t = some (.slice e))
    (hinfo : (P.info? e).map (fun i => (i.zero, i.size, i.bytes)) = some (some (.bool false), 1, 1)) (hm : m ≤ 281474976710656) (h : wpList P ops Q rest (a.put o.dst (.slice (some ⟨W.heap.size, 0, none⟩) m m)) (W.alloc (.cells (Array.mk ((List.replicate m false).map Value.bool)) e))) : wpList P ops Q (o :: rest) a W := by
  obtain ⟨i0, hi, hzz⟩ := Option.map_eq_some_iff.1 hinfo
  simp only [Prod.mk.injEq] at hzz
  obtain ⟨hz0, hz1, hz2⟩ := hzz
  have hr := run_make (P := P) W t e i0 _ ht hi hz0 .i64 .i64 (m : Int) (m : Int) (by omega) (by omega) (by rw [hz2]; omega) (by omega)
  simp only [Int.toNat_natCast] at hr
  rw [hz1, madeCells_bool] at hr
  refine Kd.event_run hgd ?_ h
  simp [execOp, ho, hx, hy, hr]
/-! ### marked -/
def markL (N : Nat) (l : List Int) : List Bool := (l.take 100).foldl setL (List.replicate N false)
theorem foldl_setL_length (l : List Int) : ∀ ls : List Bool, (l.foldl setL ls).length = ls.length := by
  induction l with
  | nil => intro ls; rfl
  | cons x r ih => intro ls; rw [List.foldl_cons, ih, setL_length]
theorem markL_length (N : Nat) (l : List Int) : (markL N l).length = N := by rw [markL, foldl_setL_length, List.length_replicate]
theorem bk_far {w w1 : World} (h : Below w.heap.size w w1) (b j : Nat) (v : Value) (hb : w.heap.size ≤ b) : Below w.heap.size w (w1.setCell ⟨b, j, none⟩ v) := h.setCell hb _
set_option maxHeartbeats 8000000 in
set_option maxRecDepth 100000 in
theorem markedC (N : Nat) (hN : N ≤ 1048576) (A1 : Option Addr) (c1 : Nat) (l : List Int) (W : World) (hr1 : Kd.C (Kd.int .i64) W A1 l.length l) : Calls Try.prog 16 #[.int .i64 (N : Int), .slice A1 l.length c1] W fun e w' => ∃ b g c, e = .returned (.tuple #[.pointer (some ⟨g, 0, none⟩), .slice (some ⟨c, 0, none⟩) N N]) ∧ MkL w' b g (markL N l) ∧ Bk w' c (markL N l) ∧ W.heap.size ≤ b ∧ W.heap.size ≤ c ∧ Below W.heap.size W w' := by
  have HN := Aside0.mk hN
  have HR := Aside0.mk hr1
  have hm2 : N ≤ 281474976710656 := by omega
  clear hr1 hN
  go_enter Try.func16, Try.ntmps16
  go_wp2_with (first
    | (go_at_call 9; refine (newC N _ HN.out).mono ?_; rintro e w2 ⟨b, g, rfl, hm, hb, hB⟩; have HM2 := Aside0.mk hm; have Hb := Aside0.mk hb; have HB2 := Aside0.mk hB; clear hm hb hB)
    | ((with_reducible refine gate_dst (N := 24) rfl ?_); refine make_bools rfl 34 _ _ rfl N rfl rfl 4 Try.underlying34 info4 hm2 ?_; have HM3 := Aside0.mk (HM2.out.below (below_alloc (Below.refl _ _) (.cells (Array.mk ((List.replicate N false).map Value.bool)) 4))); have HC3 := Aside0.mk (show Bk _ w2.heap.size (List.replicate N false) from blk_new w2 (.cells (Array.mk ((List.replicate N false).map Value.bool)) 4)); have HB3 := Aside0.mk (below_alloc HB2.out (.cells (Array.mk ((List.replicate N false).map Value.bool)) 4)); have Hc := Aside0.mk HB2.out.size; generalize w2.heap.size = c at HC3 Hc; generalize w2.alloc (.cells (Array.mk ((List.replicate N false).map Value.bool)) 4) = w3 at HM3 HC3 HB3; clear HM2 HB2))
  go_loopg [9] 101 (fun kq v9 w' => ∃ (i : Nat), v9 = .int .i64 (i : Int) ∧ Aside0 (i + kq = 101 ∧ i ≤ 100 ∧ i ≤ l.length) ∧ Aside0 (MkL w' b g ((l.take i).foldl setL (List.replicate N false))) ∧ Aside0 (Bk w' c ((l.take i).foldl setL (List.replicate N false))) ∧ Aside0 (Below W.heap.size W w'))
  case atStart => exact ⟨0, rfl, ⟨by simp⟩, HM3, HC3, HB3⟩
  case round =>
    clear HM3 HC3 HB3
    obtain ⟨i, rfl, HI, HM, HC, HB⟩ := hrel
    cases gk with
    | zero => have := HI.out; omega
    | succ k1 =>
      obtain ⟨ji, hji⟩ : ∃ j : Int, (i : Int) = j := ⟨_, rfl⟩
      rw [hji]
      by_cases cc : i < l.length ∧ i < 100
      · obtain ⟨cc1, cc2⟩ := cc
        have c1b : decide (ji < (l.length : Int)) = true := decide_eq_true (by omega)
        have c2b : decide (ji < 100) = true := decide_eq_true (by omega)
        have p0 : 0 ≤ ji := by omega
        have p1 : ji < (l.length : Int) := by omega
        obtain ⟨ad, e1, hx⟩ := Kd.at_int HR.out ji p0 p1
        cases e1
        have hti : ji.toNat = i := by omega
        have hlx : l[i]? = some (rd l ji) := by simp [rd, hti, cc1]
        generalize rd l ji = x at hx hlx
        have hx0 := pw_cell_below HB.out hx
        have htk : (l.take (i + 1)).foldl setL (List.replicate N false) = setL ((l.take i).foldl setL (List.replicate N false)) x := by
          rw [List.take_add_one, hlx, Option.toList_some, List.foldl_append]
          rfl
        have hlN : ((l.take i).foldl setL (List.replicate N false)).length = N := by rw [foldl_setL_length, List.length_replicate]
        generalize (l.take i).foldl setL (List.replicate N false) = ls at HM HC htk hlN
        have hw' : IntKind.i64.wrap (ji + 1) = ((i + 1 : Nat) : Int) := by rw [IntKind.wrap_i64]; omega
        have hrel2 : Aside0 (i + 1 + k1 = 101 ∧ i + 1 ≤ 100 ∧ i + 1 ≤ l.length) := ⟨by have := HI.out; omega⟩
        have hfe := fresh_eq ls x
        rw [hlN] at hfe
        have hne := HM.out.ne HC.out
        have hxe : some c ≠ some b := by intro e; injection e with e; exact hne.1 e.symm
        have hxe2 : some b ≠ some c := by intro e; injection e with e; exact hne.1 e
        have hxe3 : some g ≠ some c := by intro e; injection e with e; exact hne.2 e
        clear hx hlx hti cc1 cc2 hji
        replace p0 := eq_true p0
        replace p1 := eq_true p1
        by_cases hpq : 0 ≤ x ∧ x < (N : Int)
        · obtain ⟨h0, h1⟩ := hpq
          have h0b : decide (0 ≤ x) = true := decide_eq_true h0
          have h1b : decide (x < (N : Int)) = true := decide_eq_true h1
          obtain ⟨d, hd⟩ : ∃ d, ls[x.toNat]? = some d := ⟨_, List.getElem?_eq_getElem (by omega)⟩
          have hhas : hasL ls x = d := by simp [hasL, h0, hd]
          rw [h0b, h1b, hhas] at hfe
          have hst : setL ls x = ls.set x.toNat true := if_pos h0
          have hcd := HC.out.cell hd
          replace h0 := eq_true h0
          replace h1 := eq_true h1
          cases d with
          | false =>
            go_wp2_with (first
              | (go_at_call 11; (with_reducible refine (setR HM.out x hfe rfl).mono ?_); rintro e w4 ⟨rfl, hm, hg⟩; have HM4 := Aside0.mk hm; have HB4 := Aside0.mk (grown_below HB.out Hb.out hg); have HC4 := Aside0.mk (HC.out.grown hg hxe); have hf4 := blk_frozen HC4.out x.toNat; have hcd4 := HC4.out.cell hd; clear hm hg))
            go_roundg k1
            case measure => omega
            case rel =>
              refine ⟨i + 1, by first | rfl | (rw [hw']; done) | (simp [hw']; done), hrel2, ⟨?_⟩, ⟨?_⟩, ⟨bk_far HB4.out c _ _ Hc.out⟩⟩
              · rw [htk]
                exact HM4.out.grown (grown_set (Below.refl _ _) c _ _) hxe2 hxe3
              · rw [htk, hst]
                exact HC4.out.put x.toNat true
          | true =>
            have hss : setL ls x = ls := by rw [hst]; exact set_same (.inr (by rw [List.getD_eq_getElem?_getD, hd]; rfl))
            go_wp2_with (first
              | (go_at_call 11; (with_reducible refine (setR HM.out x hfe rfl).mono ?_); rintro e w4 ⟨rfl, hm, hg⟩; have HM4 := Aside0.mk hm; have HB4 := Aside0.mk (grown_below HB.out Hb.out hg); have HC4 := Aside0.mk (HC.out.grown hg hxe); clear hm hg))
            go_roundg k1
            case measure => omega
            case rel => exact ⟨i + 1, by first | rfl | (rw [hw']; done) | (simp [hw']; done), hrel2, ⟨by rw [htk]; exact HM4.out⟩, ⟨by rw [htk, hss]; exact HC4.out⟩, HB4⟩
        · have hss : setL ls x = ls := by
            unfold setL
            split
            · exact set_same (.inl (by omega))
            · rfl
          have hh : (decide (0 ≤ x) = true ∧ decide (x < (N : Int)) = false) ∨ decide (0 ≤ x) = false := by
            by_cases h0 : 0 ≤ x
            · exact .inl ⟨decide_eq_true h0, decide_eq_false (fun h => hpq ⟨h0, h⟩)⟩
            · exact .inr (decide_eq_false h0)
          have hf0 : freshL ls x = false := by
            rcases hh with ⟨h0, h1⟩ | h0
            · rw [hfe, h1, Bool.and_false]; rfl
            · rw [hfe, h0]; rfl
          clear hpq hfe
          rcases hh with ⟨h0, h1⟩ | h0
          all_goals (
            go_wp2_with (first
              | (go_at_call 11; (with_reducible refine (setR HM.out x hf0 rfl).mono ?_); rintro e w4 ⟨rfl, hm, hg⟩; have HM4 := Aside0.mk hm; have HB4 := Aside0.mk (grown_below HB.out Hb.out hg); have HC4 := Aside0.mk (HC.out.grown hg hxe); clear hm hg))
            go_roundg k1
            case measure => omega
            case rel => exact ⟨i + 1, by first | rfl | (rw [hw']; done) | (simp [hw']; done), hrel2, ⟨by rw [htk]; exact HM4.out⟩, ⟨by rw [htk, hss]; exact HC4.out⟩, HB4⟩)
      · have hcc : decide (ji < (l.length : Int)) = false ∨ (decide (ji < (l.length : Int)) = true ∧ decide (ji < 100) = false) := by
          by_cases c1 : i < l.length
          · exact .inr ⟨decide_eq_true (by omega), decide_eq_false (by omega)⟩
          · exact .inl (decide_eq_false (by omega))
        have htk : l.take i = l.take 100 := by
          have := HI.out
          by_cases c1 : i < l.length
          · rw [show i = 100 by omega]
          · rw [List.take_of_length_le (by omega), List.take_of_length_le (by omega)]
        clear cc
        rcases hcc with c1b | ⟨c1b, c2b⟩
        all_goals (
          go_wp2
          go_ret2
          exact ⟨b, g, c, rfl, by rw [markL, ← htk]; exact HM.out, by rw [markL, ← htk]; exact HC.out, Hb.out, Hc.out, HB.out⟩)
end Go.Proofs.Ytodadonpfcefbaa.Marks

namespace Go.Proofs.Ytodadonpfcefbaa.Marks
open Go.RowKit Go.Proofs.YtodadonpfcefbaaW.PrintWords Go.Proofs.YtodadonpfcefbaaW.PrintLast Go.Proofs.YtodadonpfcefbaaW.PrintMore Go.Proofs.Ytodadonpfcefbaa.QDelsReads Go.Proofs.Ytodadonpfcefbaa.Base
attribute [local go_sem] max2_int min2_int max_two min_two max_three min_three max_four min_four
set_option linter.unusedVariables false
set_option linter.unusedSimpArgs false
theorem same_l0 (l : List Int) (hl : l.length < 9223372036854775807) (d : Nat) : ∀ i, l.length - i = d → i ≤ l.length → Ev (fun k => columbariumbook_Same_int.l0 k l l (i : Int)) true := by
  induction d with
  | zero =>
    intro i h1 h2
    refine Ev.step (f := fun _ => some true) (fun k => ?_) (Ev.now _)
    rw [columbariumbook_Same_int.l0, if_neg (by omega)]
  | succ d ih =>
    intro i h1 h2
    refine Ev.step (f := fun k => columbariumbook_Same_int.l0 k l l ((i + 1 : Nat) : Int)) (fun k => ?_) (ih (i + 1) (by omega) (by omega))
    rw [columbariumbook_Same_int.l0, if_pos (by omega), if_pos (by omega), succ64 (by omega)]
    simp; omega
theorem same_self (l : List Int) (hl : l.length < 9223372036854775807) : ∃ k, columbariumbook_Same_int.f k l l = some true := by
  obtain ⟨k, hk⟩ := (same_l0 l hl l.length 0 (by omega) (by omega)).rounds
  exact ⟨k, by rw [columbariumbook_Same_int.f, if_pos rfl]; exact hk⟩
theorem leftFrom_append (l : List Bool) (b : Bool) : ∀ k, leftFrom k (l ++ [b]) = leftFrom k l ++ (if b = true then [] else [((k + l.length : Nat) : Int)]) := by
  induction l with
  | nil => intro k; cases b <;> rfl
  | cons a r ih =>
    intro k
    cases a with
    | true => rw [List.cons_append, leftFrom, leftFrom, ih, List.length_cons, show k + 1 + r.length = k + (r.length + 1) by omega]
    | false => rw [List.cons_append, leftFrom, leftFrom, ih, List.length_cons, show k + 1 + r.length = k + (r.length + 1) by omega, List.cons_append]
theorem leftL_take {l : List Bool} {i : Nat} (h : i < l.length) : leftL (l.take (i + 1)) = leftL (l.take i) ++ (if l[i] = true then [] else [(i : Int)]) := by
  have e : l.take (i + 1) = l.take i ++ [l[i]] := by rw [List.take_add_one, List.getElem?_eq_getElem h]; rfl
  rw [e, leftL, leftFrom_append, leftL, List.length_take, Nat.min_eq_left (by omega), Nat.zero_add]
theorem cntL_take {l : List Bool} {i : Nat} (h : i < l.length) : cntL (l.take (i + 1)) = cntL (l.take i) + (if l[i] = true then 1 else 0) := by
  have e : l.take (i + 1) = l.take i ++ [l[i]] := by rw [List.take_add_one, List.getElem?_eq_getElem h]; rfl
  unfold cntL
  rw [e, List.count_append]
  cases l[i] <;> simp
theorem leftL_le (l : List Bool) : (leftL l).length ≤ l.length := by have := leftFrom_length l 0; unfold leftL; omega
set_option maxHeartbeats 8000000 in
set_option maxRecDepth 100000 in
theorem alikeC {b g : Nat} {ls : List Bool} {W : World} (hM : MkL W b g ls) (A : Option Addr) (c : Nat) (hr : Kd.C Kd.bool W A ls.length ls) : Calls Try.prog 17 #[.pointer (some ⟨g, 0, none⟩), .slice A ls.length c] W fun e w' => e = .returned (.bool true) ∧ Below W.heap.size W w' := by
  have HM := Aside0.mk hM
  have HR := Aside0.mk hr
  have HN := Aside0.mk hM.small
  have HLe := Aside0.mk (leftL_le ls)
  have hro := (rowsC hM)
  have h1o : hasL ls (ls.length : Int) = false := hasL_out (by omega)
  have h1m : hasL ls (-1) = false := hasL_out (by omega)
  obtain ⟨ks, hks⟩ := same_self (leftL ls) (by have := leftL_le ls; have := hM.small; omega)
  clear hM hr hro
  go_enter Try.func17, Try.ntmps17
  go_wp2
  go_loopg [5, 6, 7] (ls.length + 1) (fun kq v5 v6 v7 w' => ∃ (i : Nat), v6 = .int .i64 (cntL (ls.take i)) ∧ v7 = .int .i64 (i : Int) ∧ Aside0 (i + kq = ls.length + 1 ∧ i ≤ ls.length) ∧ Aside0 (Kd.R (Kd.int .i64) 3 w' W.heap.size (fun _ => True) v5 (leftL (ls.take i))) ∧ Aside0 (Below W.heap.size W w'))
  case atStart => exact ⟨0, rfl, rfl, ⟨by simp⟩, ⟨Kd.R_nil _ _ _ _ _⟩, ⟨Below.refl _ _⟩⟩
  case round =>
    obtain ⟨i, rfl, rfl, HI, HO, HB⟩ := hrel
    have HM5 := Aside0.mk (HM.out.below HB.out)
    cases gk with
    | zero => have := HI.out; omega
    | succ k1 =>
      obtain ⟨ji, hji⟩ : ∃ j : Int, (i : Int) = j := ⟨_, rfl⟩
      rw [hji]
      by_cases cc : i < ls.length
      · have c1b : decide (ji < (ls.length : Int)) = true := decide_eq_true (by omega)
        have p0 : 0 ≤ ji := by omega
        have p1 : ji < (ls.length : Int) := by omega
        obtain ⟨ad, e1, hx⟩ := Kd.at_bool HR.out ji p0 p1
        cases e1
        have hti : ji.toNat = i := by omega
        have hxe : rdOf false ls ji = ls[i] := by simp [rdOf, hti, cc]
        have hh : hasL ls ji = ls[i] := by simp [hasL, hti, cc, p0]
        have hcn := cntL_take cc
        have hlt := leftL_take cc
        rw [hxe] at hx
        have hx0 := pw_cell_below HB.out hx
        have hw' : IntKind.i64.wrap (ji + 1) = ((i + 1 : Nat) : Int) := by have := HN.out; rw [IntKind.wrap_i64]; omega
        have hcr := cnt_range (ls.take i)
        have htl : (ls.take i).length ≤ ls.length := by simp; omega
        have hn1 : IntKind.i64.wrap (cntL (ls.take i) + 1) = cntL (ls.take i) + 1 := by have := HN.out; rw [IntKind.wrap_i64]; omega
        have hll := leftL_le (ls.take i)
        have hrel2 : Aside0 (i + 1 + k1 = ls.length + 1 ∧ i + 1 ≤ ls.length) := ⟨by have := HI.out; omega⟩
        have hlen : Aside0 ((leftL (ls.take i)).length ≤ 1048576) := ⟨by have := HN.out; omega⟩
        rw [hji] at hlt
        generalize ls[i] = d at hx0 hh hcn hlt
        generalize hn0 : cntL (ls.take i) = n at hcn hn1
        generalize leftL (ls.take i) = lf at hlt HO hlen
        clear hx hxe hti cc hji hcr htl hll
        replace p0 := eq_true p0
        replace p1 := eq_true p1
        go_upto_region 6 with (fail)
        cases d with
        | true =>
          rw [if_pos rfl] at hcn hlt
          go_quiet ((go_at_call 10; exact hasQ HM5.out _ _ hh))
          go_wp2
          go_roundg k1
          case measure => omega
          case rel => exact ⟨i + 1, by first | (rw [hcn]; done) | (simp [hcn, hn1]; done), by first | rfl | (rw [hw']; done) | (simp [hw']; done), hrel2, ⟨by rw [hlt, List.append_nil]; repeat (first | exact HO.out | apply Kd.R_drewN | apply Kd.R_drew)⟩, ⟨by repeat (first | exact HB.out | apply pw_below_drewN | apply Below.drew)⟩⟩
        | false =>
          rw [if_neg Bool.false_ne_true] at hcn hlt
          go_quiet ((go_at_call 10; exact hasQ HM5.out _ _ hh))
          go_wp2_with (first
            | ((with_reducible refine gate_builtin (b := .append) (xs := #[.tmp 28, .tmp 30]) rfl ?_); at_builtin; refine Kd.R_append (Kd.int .i64) W.heap.size rfl (.tmp 28) (.tmp 30) 22 3 (.int .i64 0) 8 rfl Try.underlying22 info3 rfl (by decide) (by omega) u5 lf ji [.int .i64 ji] (fun _ => True) (fun _ => False) rfl rfl ?aP (fun _ hk => hk.elim) ?aF ?aO (Below.refl _ _) ?aS ?aL ?_; (case aP => exact rfl); (case aF => exact (fun _ _ => trivial)); (case aO => (with_reducible repeat (first | apply Kd.R_alloc | apply Kd.R_drewN | apply Kd.R_drew)); exact HO.out); (case aS => exact (below_size (by repeat (first | exact HB.out | apply below_alloc | apply pw_below_drewN | apply Below.drew)))); (case aL => have := hlen.out; omega); intro v9 w9 ho hb hg hat; have HO9 := Aside0.mk ho; have HB9 := Aside0.mk ((show Below W.heap.size W _ from by repeat (first | exact HB.out | apply below_alloc | apply pw_below_drewN | apply Below.drew)).trans hb); clear ho hb hg hat))
          go_roundg k1
          case measure => omega
          case rel => exact ⟨i + 1, by first | (rw [hcn, Int.add_zero]; done) | (simp [hcn, hn0]; done), by first | rfl | (rw [hw']; done) | (simp [hw']; done), hrel2, ⟨by rw [hlt]; exact HO9.out⟩, HB9⟩
      · have c1b : decide (ji < (ls.length : Int)) = false := decide_eq_false (by omega)
        have hi : i = ls.length := by have := HI.out; omega
        subst hi
        rw [List.take_length] at HO
        have hcnt : cntL (ls.take ls.length) = cntL ls := by rw [List.take_length]
        generalize hn0 : cntL ls = n at hcnt
        obtain ⟨A5, c5, e5⟩ := Kd.R_slice HO.out
        subst e5
        rw [hcnt]
        clear hji hcnt cc
        go_wp2_with (first
          | (go_at_call 22; (with_reducible refine (rowsC HM5.out).mono ?_); rintro e w6 ⟨rfl, hb⟩; have HM6 := Aside0.mk (HM5.out.below hb); have HB6 := Aside0.mk (below_step HB.out hb); have HO6 := Aside0.mk (Kd.R_below HO.out hb); clear hb)
          | (go_at_call 12; (with_reducible refine (countR HM6.out hn0).mono ?_); rintro e w7 ⟨rfl, hb⟩; have HM7 := Aside0.mk (HM6.out.below hb); have HB7 := Aside0.mk (below_step HB6.out hb); have HO7 := Aside0.mk (Kd.R_below HO6.out hb); clear hb)
          | (go_at_call 13; (with_reducible refine (leftC HM7.out).mono ?_); rintro e w8 ⟨v8, rfl, ho, hb⟩; have HM8 := Aside0.mk (HM7.out.below hb); have HB8 := Aside0.mk (below_step HB7.out hb); have HO8 := Aside0.mk (Kd.R_below HO7.out hb); obtain ⟨A8, c8, e8⟩ := Kd.R_slice ho; subst e8; have HL8 := Aside0.mk ho; clear ho hb)
          | (go_at_call 23; (with_reducible refine (columbariumbook_Same_int.calls ks A8 c8 (leftL ls) A5 c5 (leftL ls) true _ (Kd.R_reads' HL8.out).2.2 (Kd.R_reads' HL8.out).2.1 (Kd.R_reads' HO8.out).2.2 (Kd.R_reads' HO8.out).2.1 hks).mono ?_); rintro e w9 ⟨rfl, hb⟩; have HM9 := Aside0.mk (HM8.out.below hb.below); have HB9 := Aside0.mk (below_step HB8.out hb.below); clear hb)
          | (go_at_call 10; (with_reducible refine (hasR HM9.out (ls.length : Int) h1o).mono ?_); rintro e w10 ⟨rfl, hb⟩; have HM10 := Aside0.mk (HM9.out.below hb); have HB10 := Aside0.mk (below_step HB9.out hb); clear hb)
          | (go_at_call 10; (with_reducible refine (hasR HM10.out (-1) h1m).mono ?_); rintro e w11 ⟨rfl, hb⟩; have HB11 := Aside0.mk (below_step HB10.out hb); clear hb))
        go_ret
        exact ⟨rfl, HB11.out⟩
end Go.Proofs.Ytodadonpfcefbaa.Marks
