/- DelsNumbers: the walk. -/
import Derived.Test.YtodadonpfcefbaaM11
import Derived.Lib.Hide
namespace Go.Proofs.Ytodadonpfcefbaa.Marks
open Reg Go.RowKit Go.Proofs.YtodadonpfcefbaaW.PrintWords Go.Proofs.YtodadonpfcefbaaW.PrintLast Go.Proofs.YtodadonpfcefbaaW.PrintMore Go.Proofs.Ytodadonpfcefbaa.QDelsReads Go.Proofs.Ytodadonpfcefbaa.Base
attribute [local go_sem] max2_int min2_int max_two min_two max_three min_three max_four min_four
set_option linter.unusedVariables false
set_option linter.unusedSimpArgs false
theorem dn1 : decF 60 [129, 128, 64] 0 = some (none, 0, 4) := by decide +kernel
theorem dn2 : decF 60 [3, 3, 10] 0 = some (none, 0, 12) := by decide +kernel
theorem dn3 : decF 60 [3] 0 = some (none, 0, 10) := by decide +kernel
theorem dn4 : decF 60 [] 1 = some (none, 0, 1) := by decide +kernel
theorem dn5 : decF 60 [7, 0, 7] 1 = some (some [], 2, 0) := by decide +kernel
/-- Bytes written out. -/
theorem bytes_C (w : World) (xs : List Int) (hl : xs.length ≤ 9223372036854775807) : Kd.C (Kd.int .u8) (w.alloc (.cells (Array.mk (xs.map fun x => Value.int .u8 x)) 5)) (some ⟨w.heap.size, 0, none⟩) xs.length xs :=
  row_of_blk hl (blk_new w _)
theorem dec1 (w : World) : Calls Try.prog 20 #[.slice (some ⟨w.heap.size, 0, none⟩) 3 3, .int .i64 0] (w.alloc (.cells #[.int .u8 129, .int .u8 128, .int .u8 64] 5)) fun e w' => e = .returned (.tuple #[.pointer none, .int .i64 0, .int .i64 4]) ∧ Below w.heap.size w w' :=
  (decBad (c0 := 3) (bytes_C w [129, 128, 64] (by decide)) (by decide) dn1).mono fun e w' ⟨h, hb⟩ => ⟨h, below_step (below_alloc (Below.refl _ _) _) hb⟩
theorem dec2 (w : World) : Calls Try.prog 20 #[.slice (some ⟨w.heap.size, 0, none⟩) 3 3, .int .i64 0] (w.alloc (.cells #[.int .u8 3, .int .u8 3, .int .u8 10] 5)) fun e w' => e = .returned (.tuple #[.pointer none, .int .i64 0, .int .i64 12]) ∧ Below w.heap.size w w' :=
  (decBad (c0 := 3) (bytes_C w [3, 3, 10] (by decide)) (by decide) dn2).mono fun e w' ⟨h, hb⟩ => ⟨h, below_step (below_alloc (Below.refl _ _) _) hb⟩
theorem dec3 (w : World) : Calls Try.prog 20 #[.slice (some ⟨w.heap.size, 0, none⟩) 1 1, .int .i64 0] (w.alloc (.cells #[.int .u8 3] 5)) fun e w' => e = .returned (.tuple #[.pointer none, .int .i64 0, .int .i64 10]) ∧ Below w.heap.size w w' :=
  (decBad (c0 := 1) (bytes_C w [3] (by decide)) (by decide) dn3).mono fun e w' ⟨h, hb⟩ => ⟨h, below_step (below_alloc (Below.refl _ _) _) hb⟩
theorem dec4 (w : World) : Calls Try.prog 20 #[.slice none 0 0, .int .i64 1] w fun e w' => e = .returned (.tuple #[.pointer none, .int .i64 0, .int .i64 1]) ∧ Below w.heap.size w w' := decBad (c0 := 0) (l0 := []) (Kd.C_nil _ _) (by decide) dn4
theorem dec5 (w : World) : Calls Try.prog 20 #[.slice (some ⟨w.heap.size, 0, none⟩) 3 3, .int .i64 1] (w.alloc (.cells #[.int .u8 7, .int .u8 0, .int .u8 7] 5)) fun e w' => ∃ b g, e = .returned (.tuple #[.pointer (some ⟨g, 0, none⟩), .int .i64 2, .int .i64 0]) ∧ MkL w' b g [] ∧ w.heap.size ≤ b ∧ Below w.heap.size w w' :=
  (decOk (c0 := 3) (bytes_C w [7, 0, 7] (by decide)) (by decide) dn5).mono fun e w' ⟨b, g, h, hm, hb0, hb⟩ => ⟨b, g, h, hm, Nat.le_trans (below_alloc (Below.refl w.heap.size w) _).size hb0, below_step (below_alloc (Below.refl _ _) _) hb⟩
theorem encZ : encB (List.replicate 0 false) = [0] := by decide +kernel
theorem rows0 {w : World} {b g : Nat} (h : MkL w b g []) : Calls Try.prog 22 #[.pointer (some ⟨g, 0, none⟩)] w fun e w' => e = .returned (.int .i64 0) ∧ Below w.heap.size w w' := rowsC h
theorem rows9 {w : World} {b g : Nat} (h : MkL w b g (List.replicate 9 false)) : Calls Try.prog 22 #[.pointer (some ⟨g, 0, none⟩)] w fun e w' => e = .returned (.int .i64 9) ∧ Below w.heap.size w w' := rowsC h
theorem has9 {w : World} {b g : Nat} (h : MkL w b g (List.replicate 9 false)) : Calls Try.prog 10 #[.pointer (some ⟨g, 0, none⟩), .int .i64 (-1)] w fun e w' => e = .returned (.bool false) ∧ Below w.heap.size w w' := hasR h (-1) (by decide)
theorem set9 {w : World} {b g : Nat} (h : MkL w b g (List.replicate 9 false)) : Calls Try.prog 11 #[.pointer (some ⟨g, 0, none⟩), .int .i64 (-1)] w fun e w' => e = .returned (.bool false) ∧ MkL w' b g (List.replicate 9 false) ∧ w.grownBy w' (some b) := setR h (-1) (by decide) (by decide)
theorem left9 {w : World} {b g : Nat} (h : MkL w b g (List.replicate 9 false)) : Calls Try.prog 13 #[.pointer (some ⟨g, 0, none⟩)] w fun e w' => ∃ A c, e = .returned (.slice A 9 c) ∧ Below w.heap.size w w' :=
  (leftC h).mono fun e w' ⟨v, he, ho, hb⟩ => by
    obtain ⟨A, c, hv⟩ := Kd.R_slice ho
    exact ⟨A, c, by rw [he, hv]; rfl, hb⟩
theorem enc0 {w : World} {b g : Nat} (h : MkL w b g (List.replicate 0 false)) : Calls Try.prog 18 #[.pointer (some ⟨g, 0, none⟩)] w fun e w' => ∃ v0_ : Value, e = .returned (v0_) ∧ Kd.R (Kd.int .u8) 5 w' w.heap.size (fun _ => True) v0_ [0] ∧ Below w.heap.size w w' := by
  have := encodeC h
  rw [encZ] at this
  exact this
structure NS (W : World) (bz gz bm gm : Nat) (w' : World) : Prop where
  z : MkL w' bz gz (List.replicate 0 false)
  m : MkL w' bm gm (List.replicate 9 false)
  ne : gz < bm
  lo : W.heap.size ≤ bm
  below : Below W.heap.size W w'
theorem NS.step {W : World} {bz gz bm gm : Nat} {w1 w2 : World} (h : NS W bz gz bm gm w1) (k : Below w1.heap.size w1 w2) : NS W bz gz bm gm w2 := ⟨h.z.below k, h.m.below k, h.ne, h.lo, below_step h.below k⟩
theorem new0 (w : World) : Calls Try.prog 9 #[.int .i64 0] w fun e w' => ∃ b g, e = .returned (.tuple #[.pointer (some ⟨g, 0, none⟩), .int .i64 0]) ∧ MkL w' b g (List.replicate 0 false) ∧ w.heap.size ≤ b ∧ Below w.heap.size w w' := newC 0 w (by decide)
theorem new9 (w : World) : Calls Try.prog 9 #[.int .i64 9] w fun e w' => ∃ b g, e = .returned (.tuple #[.pointer (some ⟨g, 0, none⟩), .int .i64 0]) ∧ MkL w' b g (List.replicate 9 false) ∧ w.heap.size ≤ b ∧ Below w.heap.size w w' := newC 9 w (by decide)
set_option maxHeartbeats 8000000 in
set_option maxRecDepth 100000 in
theorem numbersC (W : World) : Calls Try.prog 6 #[] W fun e w' => e = .returned (.bool true) ∧ Below W.heap.size W w' := by
  have hstr : ((strOfNums [0]).toList == ([0] : List UInt8)) = true := by decide +kernel
  go_enter Try.func6, Try.ntmps6
  go_upto_region 14 with (first
    | (go_at_call 9; (with_reducible refine (newBad_calls (-1) _ (by decide)).mono ?_); rintro e w1 ⟨rfl, hb⟩; have HB1 := Aside0.mk hb; clear hb)
    | (go_at_call 9; (with_reducible refine (newBad_calls 1048577 _ (by decide)).mono ?_); rintro e w2 ⟨rfl, hb⟩; have HB2 := Aside0.mk (below_step HB1.out hb); clear hb)
    | (go_at_call 9; (with_reducible refine (new0 _).mono ?_); rintro e w3 ⟨bz, gz, rfl, hm, hb0, hb⟩; have HZ3 := Aside0.mk hm; have HB3 := Aside0.mk (below_step HB2.out hb); clear hb hm hb0)
    | (go_at_call 9; (with_reducible refine (new9 _).mono ?_); rintro e w4 ⟨bm, gm, rfl, hm, hb0, hb⟩; have HS4 := Aside0.mk (show NS W bz gz bm gm w4 from ⟨HZ3.out.below hb, hm, Nat.lt_of_lt_of_le HZ3.out.lt.2 hb0, Nat.le_trans HB3.out.size hb0, below_step HB3.out hb⟩); clear hb hm hb0)
    | (go_at_call 14; (with_reducible refine (orBadC HS4.out.m HS4.out.z (by decide)).mono ?_); rintro e w5 ⟨rfl, hb⟩; have HS5 := Aside0.mk (HS4.out.step hb); clear hb)
    | (go_at_call 14; (with_reducible refine orNilC.mono ?_); rintro e w6 ⟨rfl, hb⟩; have HS6 := Aside0.mk (HS5.out.step hb); clear hb)
    | (go_at_call 20; (with_reducible refine (dec1 _).mono ?_); rintro e w7 ⟨rfl, hb⟩; have HS7 := Aside0.mk (HS6.out.step hb); clear hb)
    | (go_at_call 20; (with_reducible refine (dec2 _).mono ?_); rintro e w8 ⟨rfl, hb⟩; have HS8 := Aside0.mk (HS7.out.step hb); clear hb)
    | (go_at_call 20; (with_reducible refine (dec3 _).mono ?_); rintro e w9 ⟨rfl, hb⟩; have HS9 := Aside0.mk (HS8.out.step hb); clear hb)
    | (go_at_call 20; (with_reducible refine (dec4 _).mono ?_); rintro e w10 ⟨rfl, hb⟩; have HS10 := Aside0.mk (HS9.out.step hb); clear hb)
    | (go_at_call 20; (with_reducible refine (dec5 _).mono ?_); rintro e w11 ⟨bx, gx, rfl, hm, hb0, hb⟩; have HX11 := Aside0.mk hm; have HXO := Aside0.mk (Nat.lt_of_lt_of_le HS10.out.m.lt.2 hb0); have HS11 := Aside0.mk (HS10.out.step hb); clear hb hm hb0))
  go_wp2_with (first
    | (go_at_call 22; (with_reducible refine (rows0 HX11.out).mono ?_); rintro e w12 ⟨rfl, hb⟩; have HS12 := Aside0.mk (HS11.out.step hb); clear hb)
    | (go_at_call 18; (with_reducible refine (enc0 HS12.out.z).mono ?_); rintro e w13 ⟨v13, rfl, ho, hb⟩; have HS13 := Aside0.mk (HS12.out.step hb); have hcv := own_string (P := Try.prog) Try.underlying38 Try.underlying5 Try.underlying9 (Kd.own_of_R ho); clear hb ho)
    | (go_at_call 10; (with_reducible refine (has9 HS13.out.m).mono ?_); rintro e w14 ⟨rfl, hb⟩; have HS14 := Aside0.mk (HS13.out.step hb); clear hb)
    | (go_at_call 11; (with_reducible refine (set9 HS14.out.m).mono ?_); rintro e w15 ⟨rfl, hm, hg⟩; have HM15 := Aside0.mk hm; have HB15 := Aside0.mk (grown_below HS14.out.below HS14.out.lo hg); clear hm hg)
    | (go_at_call 13; (with_reducible refine (left9 HM15.out).mono ?_); rintro e w16 ⟨AL, cL, rfl, hb⟩; have HM16 := Aside0.mk (HM15.out.below hb); have HB16 := Aside0.mk (below_step HB15.out hb); clear hb)
    | (go_at_call 22; (with_reducible refine (rows9 HM16.out).mono ?_); rintro e w17 ⟨rfl, hb⟩; have HB17 := Aside0.mk (below_step HB16.out hb); clear hb)
    | (go_at_call 15; (with_reducible refine (knownC _).mono ?_); rintro e w18 ⟨rfl, hb⟩; have HB18 := Aside0.mk (below_step HB17.out hb); clear hb))
  go_ret
  exact ⟨rfl, HB18.out⟩
end Go.Proofs.Ytodadonpfcefbaa.Marks
