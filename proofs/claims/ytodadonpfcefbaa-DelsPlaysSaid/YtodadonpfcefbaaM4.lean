/- Marks, written; and chapter 11's known runs. -/
import Derived.Test.YtodadonpfcefbaaM3
import Derived.Test.YtodadonpfcefbaaQDelsReadsx4
namespace Go.Proofs.Ytodadonpfcefbaa.Marks
open Go.RowKit Go.Proofs.YtodadonpfcefbaaW.PrintWords Go.Proofs.YtodadonpfcefbaaW.PrintLast Go.Proofs.YtodadonpfcefbaaW.PrintMore Go.Proofs.Ytodadonpfcefbaa.QDelsReads Go.Proofs.Ytodadonpfcefbaa.Base
attribute [local go_sem] max2_int min2_int max_two min_two max_three min_three max_four min_four
set_option linter.unusedVariables false
set_option linter.unusedSimpArgs false
/-- What Encode makes of a mark. -/
def bi (b : Bool) : Int := if b = true then 1 else 0
def encAt (l : List Bool) (i : Nat) : List Int := (l.take i).map bi ++ List.replicate (l.length - i) 0
theorem encAt_length {l : List Bool} {i : Nat} (h : i ≤ l.length) : (encAt l i).length = l.length := by simp [encAt]; omega
theorem encAt_step {l : List Bool} {i : Nat} (h : i < l.length) : encAt l (i + 1) = if l[i] = true then (encAt l i).set i 1 else encAt l i := by
  have e1 : l.take (i + 1) = l.take i ++ [l[i]] := by rw [List.take_add_one, List.getElem?_eq_getElem h]; rfl
  have e2 : List.replicate (l.length - i) (0 : Int) = 0 :: List.replicate (l.length - (i + 1)) 0 := by
    rw [show l.length - i = (l.length - (i + 1)) + 1 by omega, List.replicate_succ]
  have e3 : ((l.take i).map bi).length = i := by simp; omega
  unfold encAt
  rw [e1, e2, List.map_append, List.append_assoc]
  cases l[i] with
  | true =>
    rw [if_pos rfl, List.set_append_right _ _ (by omega), e3, Nat.sub_self]
    rfl
  | false =>
    rw [if_neg Bool.false_ne_true]
    rfl
section
variable {l : List Bool} {A : List Nat} (h : Good l A) {v p : List Int} {c : Int} (hb : Ev (fun k => runs_Encode.f k (l.map bi) 1) (v, c)) (hp : Ev (fun k => varint_Put.f k ([] : List Int) (IntKind.u64.wrap (l.length : Int))) p) (hs : p.length + v.length < 140737488355328)
include h hb hp hs
theorem enc_l0 (d : Nat) : ∀ i, l.length - i = d → i ≤ l.length → Ev (fun k => dels_Marks_Encode.l0 k (encAt l i) (l.length : Int) (i : Int) (l.length : Int) (ints A)) (p ++ v, (l.length : Int)) := by
  have hsm := h.small
  induction d with
  | zero =>
    intro i h1 h2
    have hi : i = l.length := by omega
    subst hi
    refine Ev.step (f := fun k => (runs_Encode.f k (l.map bi) 1).bind fun bt193 => ((varint_Put.f k ([] : List Int) (IntKind.u64.wrap (l.length : Int))).bind fun t197 => (if t197.length + bt193.1.length < 140737488355328 then (some ((t197 ++ bt193.1), (l.length : Int))) else (none)))) (fun k => ?_) (Ev.bind hb (Ev.bind hp (Ev.congr (fun k => if_pos hs) (Ev.now _))))
    rw [dels_Marks_Encode.l0, if_neg (by omega)]
    have e : encAt l l.length = l.map bi := by simp [encAt]
    rw [e]
  | succ d ih =>
    intro i h1 h2
    have hi : i < l.length := by omega
    have hsu := succ64 (j := i) (by omega)
    have e : hasL l (i : Int) = l[i] := by simp [hasL, hi]
    have hst := encAt_step hi
    refine Ev.step (f := fun k => dels_Marks_Encode.l0 k (encAt l (i + 1)) (l.length : Int) ((i + 1 : Nat) : Int) (l.length : Int) (ints A)) (fun k => ?_) (ih (i + 1) (by omega) (by omega))
    rw [dels_Marks_Encode.l0, if_pos (by omega), has_f h, Option.bind_some, e, hsu, hst]
    cases l[i] with
    | true => rw [if_pos rfl, if_pos rfl, if_pos (by omega), if_pos (by rw [encAt_length h2]; omega), Int.toNat_natCast]
    | false => rw [if_neg Bool.false_ne_true, if_neg Bool.false_ne_true]
theorem enc_f : Ev (fun k => dels_Marks_Encode.f k (l.length : Int) (ints A)) (p ++ v, (l.length : Int)) := by
  have hsm := h.small
  refine Ev.congr (f := fun k => dels_Marks_Encode.l0 k (encAt l 0) (l.length : Int) (0 : Nat) (l.length : Int) (ints A)) (fun k => ?_) (enc_l0 h hb hp hs l.length 0 (by omega) (by omega))
  unfold dels_Marks_Encode.f
  rw [if_pos (by omega), if_pos (by omega), Option.bind_some, List.length_replicate]
  simp [encAt]
end
theorem encC {w : World} {b g : Nat} {l : List Bool} (h : MkL w b g l) {v p : List Int} {c : Int} (hb : Ev (fun k => runs_Encode.f k (l.map bi) 1) (v, c)) (hp : Ev (fun k => varint_Put.f k ([] : List Int) (IntKind.u64.wrap (l.length : Int))) p) (hs : p.length + v.length < 140737488355328) :
    Calls Try.prog 18 #[.pointer (some ⟨g, 0, none⟩)] w fun e w' => ∃ v0_ : Value, e = .returned (v0_) ∧ Kd.R (Kd.int .u8) 5 w' w.heap.size (fun _ => True) v0_ (p ++ v) ∧ Below w.heap.size w w' := by
  obtain ⟨A, h1, h2⟩ := h
  obtain ⟨k, hk⟩ := (enc_f h2 hb hp hs).rounds
  exact encode_calls h1 hk
/-! ### known -/
theorem new3 (w : World) : Calls Try.prog 9 #[.int .i64 3] w fun e w' => ∃ b g, e = .returned (.tuple #[.pointer (some ⟨g, 0, none⟩), .int .i64 0]) ∧ MkL w' b g [false, false, false] ∧ w.heap.size ≤ b ∧ Below w.heap.size w w' := newC 3 w (by decide)
theorem known1 {w : World} {b g : Nat} (h : MkL w b g [false, false, false]) : Calls Try.prog 11 #[.pointer (some ⟨g, 0, none⟩), .int .i64 1] w fun e w' => e = .returned (.bool true) ∧ MkL w' b g [false, true, false] ∧ w.grownBy w' (some b) := setC h 1
theorem known2 {w : World} {b g : Nat} (h : MkL w b g [false, true, false]) : Calls Try.prog 11 #[.pointer (some ⟨g, 0, none⟩), .int .i64 1] w fun e w' => e = .returned (.bool false) ∧ MkL w' b g [false, true, false] ∧ w.grownBy w' (some b) := setC h 1
theorem known3 {w : World} {b g : Nat} (h : MkL w b g [false, true, false]) : Calls Try.prog 11 #[.pointer (some ⟨g, 0, none⟩), .int .i64 3] w fun e w' => e = .returned (.bool false) ∧ MkL w' b g [false, true, false] ∧ w.grownBy w' (some b) := setC h 3
theorem known4 {w : World} {b g : Nat} (h : MkL w b g [false, true, false]) : Calls Try.prog 13 #[.pointer (some ⟨g, 0, none⟩)] w fun e w' => ∃ v0_ : Value, e = .returned (v0_) ∧ Kd.R (Kd.int .i64) 3 w' w.heap.size (fun _ => True) v0_ [0, 2] ∧ Below w.heap.size w w' := leftC h
theorem known5 {w : World} {b g : Nat} (h : MkL w b g [false, true, false]) : Calls Try.prog 12 #[.pointer (some ⟨g, 0, none⟩)] w fun e w' => e = .returned (.int .i64 1) ∧ Below w.heap.size w w' := countC h
theorem enc3 : Ev (fun k => runs_Encode.f k (([false, true, false] : List Bool).map bi) 1) ([3, 2], 0) := Ev.of (runs_Encode.mono _ _) (k := 60) (by decide +kernel)
theorem put3 : Ev (fun k => varint_Put.f k ([] : List Int) (IntKind.u64.wrap ((([false, true, false] : List Bool).length : Nat) : Int))) [3] := Ev.of (varint_Put.mono _ _) (k := 5) (by decide +kernel)
theorem known6 {w : World} {b g : Nat} (h : MkL w b g [false, true, false]) : Calls Try.prog 18 #[.pointer (some ⟨g, 0, none⟩)] w fun e w' => ∃ v0_ : Value, e = .returned (v0_) ∧ Kd.R (Kd.int .u8) 5 w' w.heap.size (fun _ => True) v0_ [3, 3, 2] ∧ Below w.heap.size w w' := encC h enc3 put3 (by decide)
theorem same3 : columbariumbook_Same_int.f 5 [0, 2] [0, 2] = some true := by decide +kernel
theorem str3 : ((strOfNums [3, 3, 2]).toList == ([3, 3, 2] : List UInt8)) = true := by decide +kernel
theorem lit_C (w : World) : Kd.C (Kd.int .i64) (w.alloc (.cells #[.int .i64 0, .int .i64 2] 3)) (some ⟨w.heap.size, 0, none⟩) ([0, 2] : List Int).length [0, 2] := by
  have h := blk_new w (.cells #[.int .i64 0, .int .i64 2] 3)
  refine ⟨rfl, by decide, fun _ => ⟨⟨w.heap.size, 0, none⟩, rfl, fun j p hp => ⟨[.int .i64 p], rfl, rfl, fun i u hu => ?_⟩⟩⟩
  match i, hu with
  | 0, hu =>
    simp only [List.getElem?_cons_zero, Option.some.injEq] at hu
    subst hu
    have := blk_cell h j
    rw [show (Kd.int .i64).sz = 1 from rfl, Nat.mul_one, Nat.add_zero, show (⟨w.heap.size, 0, none⟩ : Addr).add j = ⟨w.heap.size, j, none⟩ from (by simp [Addr.add]; intro h; omega), this]
    match j, hp with
    | 0, hp => simp at hp; subst hp; rfl
    | 1, hp => simp at hp; subst hp; rfl
set_option maxHeartbeats 8000000 in
set_option maxRecDepth 100000 in
theorem knownC (w : World) : Calls Try.prog 15 #[] w fun e w' => e = .returned (.bool true) ∧ Below w.heap.size w w' := by
  have hstr := str3
  go_enter Try.func15, Try.ntmps15
  go_wp2_with (first
    | (go_at_call 9; (with_reducible refine (new3 _).mono ?_); rintro e w1 ⟨b, g, rfl, hm, hb, hB⟩; have HM1 := Aside0.mk hm; have Hb1 := Aside0.mk hb; have HB1 := Aside0.mk hB; clear hm hb hB)
    | (go_at_call 11; (with_reducible refine (known1 HM1.out).mono ?_); rintro e w2 ⟨rfl, hm, hg⟩; have HM2 := Aside0.mk hm; have HB2 := Aside0.mk (Below.grown HB1.out hg HB1.out.size (fun k hk => by injection hk with hk; rw [← hk]; exact Hb1.out)); clear hm hg)
    | (go_at_call 11; (with_reducible refine (known2 HM2.out).mono ?_); rintro e w3 ⟨rfl, hm, hg⟩; have HM3 := Aside0.mk hm; have HB3 := Aside0.mk (Below.grown HB2.out hg HB2.out.size (fun k hk => by injection hk with hk; rw [← hk]; exact Hb1.out)); clear hm hg)
    | (go_at_call 11; (with_reducible refine (known3 HM3.out).mono ?_); rintro e w4 ⟨rfl, hm, hg⟩; have HM4 := Aside0.mk hm; have HB4 := Aside0.mk (Below.grown HB3.out hg HB3.out.size (fun k hk => by injection hk with hk; rw [← hk]; exact Hb1.out)); clear hm hg)
    | (go_at_call 13; (with_reducible refine (known4 HM4.out).mono ?_); rintro e w5 ⟨v5, rfl, ho, hb⟩; have HM5 := Aside0.mk (HM4.out.below hb); have HB5 := Aside0.mk (below_step HB4.out hb); have HO5 := Aside0.mk ho; obtain ⟨A5, c5, e5⟩ := Kd.R_slice ho; subst e5; clear ho hb)
    | (go_at_call 23; refine (columbariumbook_Same_int.calls 5 A5 c5 [0, 2] (some ⟨w5.heap.size, 0, none⟩) 2 [0, 2] true (w5.alloc (.cells #[.int .i64 0, .int .i64 2] 3)) (Kd.C_alloc (Kd.R_reads' HO5.out).2.2 _) (Kd.R_reads' HO5.out).2.1 (lit_C w5) (by decide) same3).mono ?_; rintro e w7 ⟨rfl, hb⟩; have HM7 := Aside0.mk ((HM5.out.below (below_alloc (Below.refl _ _) _)).below hb.below); have HB7 := Aside0.mk (below_step (below_alloc HB5.out _) hb.below); clear hb)
    | (go_at_call 12; (with_reducible refine (known5 HM7.out).mono ?_); rintro e w8 ⟨rfl, hb⟩; have HM8 := Aside0.mk (HM7.out.below hb); have HB8 := Aside0.mk (below_step HB7.out hb); clear hb)
    | (go_at_call 18; (with_reducible refine (known6 HM8.out).mono ?_); rintro e w9 ⟨v9, rfl, ho, hb⟩; have HB9 := Aside0.mk (below_step HB8.out hb); have hcv := own_string (P := Try.prog) Try.underlying38 Try.underlying5 Try.underlying9 (Kd.own_of_R ho); clear ho hb))
  go_ret
  exact ⟨rfl, HB9.out⟩
end Go.Proofs.Ytodadonpfcefbaa.Marks
