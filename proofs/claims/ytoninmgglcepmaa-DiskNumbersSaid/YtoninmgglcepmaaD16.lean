/- What a crash leaves of a file; bytes that came in. (From DiskSafe's text.) -/
import Derived.Test.YtoninmgglcepmaaD15
import Derived.Test.YtoninmgglcepmaaWFootNe
namespace Go.Proofs.Ytoninmgglcepmaa.Dk
open Go.ChangeMaps hiding rd
open RegD Go.RowKit Go.Proofs.YtoninmgglcepmaaW.PrintWords Go.Proofs.YtoninmgglcepmaaW.PrintLast Go.Proofs.YtoninmgglcepmaaW.PrintMore Mp
attribute [local go_sem] max2_int min2_int max_two min_two max_three min_three max_four min_four
set_option linter.unusedVariables false
set_option linter.unusedSimpArgs false
/-! What a crash leaves of a file -/
theorem crB_len {q : Nat} {f : FS} (h : f.safe.toNat ≤ f.bs.length) : (crB q f).length = nOf q f := by
  have := nOf_le (q := q) h
  unfold crB
  split
  · rw [List.length_set, List.length_take]; omega
  · rw [List.length_take]; omega
theorem crB_take {q : Nat} {f : FS} (h : f.safe.toNat ≤ f.bs.length) : (crB q f).take f.safe.toNat = f.bs.take f.safe.toNat := by
  have hn : f.safe.toNat ≤ nOf q f := by unfold nOf; omega
  unfold crB
  split
  · next hc =>
    rw [List.take_set_of_le (by unfold nOf at *; omega), List.take_take, Nat.min_eq_left hn]
  · rw [List.take_take, Nat.min_eq_left hn]
theorem crB_get {q : Nat} {f : FS} (h : f.safe.toNat ≤ f.bs.length) (i : Nat) (hi : i < nOf q f) : rd (crB q f) (i : Int) = rd f.bs (i : Int) ∨ (i = nOf q f - 1 ∧ rd (crB q f) (i : Int) = bits .xor .u8 (rd f.bs (i : Int)) 85) := by
  have hn := nOf_le (q := q) h
  have ht : ∀ j : Nat, j < nOf q f → rd (f.bs.take (nOf q f)) (j : Int) = rd f.bs (j : Int) := fun j hj => by
    unfold rd
    rw [Int.toNat_natCast, List.getD_eq_getElem?_getD, List.getD_eq_getElem?_getD, List.getElem?_take, if_pos hj]
  unfold crB
  split
  · next hc =>
    by_cases hl : i = nOf q f - 1
    · right
      refine ⟨hl, ?_⟩
      have h2 : ((nOf q f : Int) - 1) = ((nOf q f - 1 : Nat) : Int) := by omega
      rw [h2, ht _ (by omega), hl]
      unfold rd
      rw [Int.toNat_natCast, List.getD_eq_getElem?_getD, List.getElem?_set_self (by rw [List.length_take]; omega)]
      rfl
    · left
      rw [← ht i hi]
      unfold rd
      rw [Int.toNat_natCast, List.getD_eq_getElem?_getD, List.getElem?_set_ne (fun he => hl he.symm)]
      exact (List.getD_eq_getElem?_getD ..).symm
  · left
    exact ht i hi
theorem crF_safe {q : Nat} {f : FS} (h : f.safe.toNat ≤ f.bs.length) : (crF q f).safe = ((crF q f).bs.length : Int) := by
  show (nOf q f : Int) = ((crB q f).length : Int)
  rw [crB_len h]
theorem crB_again {q q2 : Nat} {f : FS} (h : f.safe.toNat ≤ f.bs.length) : crB q2 (crF q f) = crB q f := by
  have hs : (crF q f).safe.toNat = (crF q f).bs.length := by rw [crF_safe h]; rfl
  have hk : kOf q2 (crF q f) = 0 := by unfold kOf; rw [hs, Nat.sub_self]; exact Nat.mod_one _
  have hn : nOf q2 (crF q f) = (crF q f).bs.length := by unfold nOf; rw [hk, hs]; rfl
  unfold crB
  rw [hk, if_neg (by omega), hn, List.take_length]
  rfl
def nF : ByteArray := ⟨#[102]⟩
def nG : ByteArray := ⟨#[103]⟩
theorem nFG : nF ≠ nG := by decide +kernel
theorem badF : badName nF = false := by decide +kernel
theorem badG : badName nG = false := by decide +kernel
/-- Bytes that came in: they are no part of a disk that is new since. -/
theorem St.came {w0 w : World} {d : DSt} (h : St w0 w d) {A : Option Addr} {b : List Int} (hc : Kd.C (Kd.int .u8) w0 A b.length b) : Bytes w d A b :=
  ⟨Kd.C_below hc h.below, fun hp ad he => by
    subst he
    have hl := Kd.C_lt hc hp (by decide)
    exact ⟨Nat.lt_of_lt_of_le hl h.kept.1, fun hF => by have := h.own _ hF; omega⟩⟩
/-- A crash where both files were there: what the two disks' names may be. -/
theorem pick_two {P : Nat} {F G : ByteArray} {g g2 : Nat} (hFG : F ≠ G) (hg : g ≠ g2) {e : ByteArray} :
    ∃ dirP, runM [(F, g)] (([⟨0, G, e, some g2⟩] : List Chg).take (P % (([⟨0, G, e, some g2⟩] : List Chg).length + 1))) = some dirP ∧ (dirP = [(F, g)] ∨ dirP = [(F, g), (G, g2)]) := by
  have h2 : P % 2 = 0 ∨ P % 2 = 1 := by omega
  rcases h2 with h2 | h2
  · exact ⟨[(F, g)], by rw [show P % (([⟨0, G, e, some g2⟩] : List Chg).length + 1) = 0 from h2]; rfl, .inl rfl⟩
  · refine ⟨[(F, g), (G, g2)], ?_, .inr rfl⟩
    rw [show P % (([⟨0, G, e, some g2⟩] : List Chg).length + 1) = 1 from h2]
    simp [runM, doM, putM, hFG]
theorem range64 {n : Int} (h : (Lit.int .i64 n).wf = true) : -9223372036854775808 ≤ n ∧ n ≤ 9223372036854775807 := by
  have h2 : IntKind.i64.min ≤ n ∧ n ≤ 9223372036854775807 := by simpa [Lit.wf] using h
  have h3 : IntKind.i64.min = -9223372036854775808 := by decide
  omega
/-- The first 200 bytes of what came in. -/
theorem came_cut {W : World} {A : Option Addr} {a x : List Int} (hr : Kd.C (Kd.int .u8) W A a.length a) (hx : x = a.take 200) : Kd.C (Kd.int .u8) W A x.length x := by
  have := Kd.C_of_reads (d := (0 : Int)) (h1 := fun _ => rfl) ((Kd.reads_of_C (enc := Value.int .u8) (d := (0 : Int)) (h1 := fun _ => rfl) hr).take_ x.length (by rw [hx, List.length_take]; omega))
  rw [hx, List.length_take] at this ⊢
  rw [show a.take (min 200 a.length) = a.take 200 from by rw [← List.take_take, List.take_length]] at this
  exact this
set_option maxRecDepth 100000 in
theorem cut_cases {A : Option Addr} {c : Nat} {a x : List Int} (hx : x = a.take 200) (hc : a.length ≤ c) :
    (decide ((200 : Int) < (a.length : Int)) = true ∧ ∀ w : World, (Instr.slice 29 (.slice A a.length c) none (some (.int .i64 200)) none).run Try.prog w = .ok (.slice A x.length c) w) ∨ (decide ((200 : Int) < (a.length : Int)) = false ∧ x = a) := by
  by_cases h : 200 < a.length
  · refine .inl ⟨decide_eq_true (by omega), fun w => ?_⟩
    rw [cut_to (P := Try.prog) 29 5 .i64 Try.underlying29 (i := _) rfl A a.length c 200 (by omega) (by omega) hc w, hx, List.length_take, Nat.min_eq_left (by omega)]
    rfl
  · exact .inr ⟨decide_eq_false (by omega), by rw [hx, List.take_of_length_le (by omega)]⟩
end Go.Proofs.Ytoninmgglcepmaa.Dk
