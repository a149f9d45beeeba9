/- Numbers in runs, by a list: whatever it is, they are few, and fit. -/
import Derived.Test.YtpnnfkefddkjcaaTBookRunsLists
import Derived.Test.YtpnnfkefddkjcaaTBitsRunsLists
namespace Go.Proofs.Ytpnnfkefddkjcaa.QRunsLists
open Go.RowKit Go.Proofs.YtpnnfkefddkjcaaW.PrintWords Go.Proofs.YtpnnfkefddkjcaaW.PrintLast Go.Proofs.YtpnnfkefddkjcaaW.PrintMore Go.Proofs.Ytpnnfkefddkjcaa.Base
set_option linter.unusedVariables false
set_option linter.unusedSimpArgs false

theorem mask_lt {t w : Nat} (hw : w ≤ 32) (ht : t < 2 ^ 64) : ∃ v : Nat, v < 2 ^ w ∧ Go.bits .and .u64 (IntKind.u64.wrap (t : Int)) (IntKind.u64.wrap ((shl .u64 1 (IntKind.u64.wrap (w : Int))) - 1)) = (v : Int) := by
  have h2 : 2 ^ w ≤ 2 ^ 32 := Nat.pow_le_pow_right (by decide) hw
  have h0 := Nat.two_pow_pos w
  have e1 : IntKind.u64.wrap (w : Int) = (w : Int) := wu64 (by omega) (by omega)
  have e2 : shl .u64 1 (w : Int) = ((2 ^ w : Nat) : Int) := by
    rw [show (1 : Int) = ((1 : Nat) : Int) from rfl, shl64 (by omega), Nat.one_shiftLeft, Nat.mod_eq_of_lt (by omega)]
  refine ⟨t % 2 ^ w, Nat.mod_lt _ h0, ?_⟩
  rw [e1, e2, show ((2 ^ w : Nat) : Int) - 1 = ((2 ^ w - 1 : Nat) : Int) by omega, wu64 (by omega) (by omega), wu64 (by omega) (by omega), and64 ht (by omega), Nat.and_two_pow_sub_one_eq_mod]
theorem shaped_l1 (l : List S25) (w i t v : Nat) (hi : i ≤ 12) (M : List Nat) (hM : M.length + t ≤ 1000) (r : List Int) (hr : Ev (fun k => columbariumlaw5_shaped.l0 k l (w : Int) (ints (M ++ List.replicate t v)) ((i + 1 : Nat) : Int)) r) (d : Nat) : ∀ j, t - j = d → j ≤ t →
    Ev (fun k => columbariumlaw5_shaped.l1 k l (w : Int) (ints (M ++ List.replicate j v)) (i : Int) (t : Int) (v : Int) (j : Int)) r := by
  induction d with
  | zero =>
    intro j hd hj
    obtain rfl : j = t := by omega
    refine Ev.step (fun k => ?_) hr
    rw [columbariumlaw5_shaped.l1, if_neg (by omega), succ64 (by omega)]
  | succ d ih =>
    intro j hd hj
    refine Ev.step (fun k => ?_) (ih (j + 1) (by omega) (by omega))
    rw [columbariumlaw5_shaped.l1, if_pos (by omega), if_pos (by rw [ints_length, List.length_append, List.length_replicate]; omega), succ64 (by omega), List.replicate_succ', ← List.append_assoc, ← ints_append (M ++ List.replicate j v)]
    rfl
theorem shaped_l0 (l : List S25) (w : Nat) (hw : w ≤ 32) (d : Nat) : ∀ (i : Nat) (M : List Nat), 12 - i = d → i ≤ 12 → M.length ≤ 20 * i → (∀ x ∈ M, x < 2 ^ w) →
    ∃ R : List Nat, R.length ≤ 240 ∧ (∀ x ∈ R, x < 2 ^ w) ∧ Ev (fun k => columbariumlaw5_shaped.l0 k l (w : Int) (ints M) (i : Int)) (ints R) := by
  have hend : ∀ (i : Nat) (M : List Nat), Ev (fun k => columbariumlaw5_shaped.j1 k l (w : Int) (ints M) (i : Int) false) (ints M) := fun i M =>
    Ev.step (f := fun _ => some (ints M)) (fun k => by rw [columbariumlaw5_shaped.j1, if_neg (by decide)]) (Ev.now _)
  induction d with
  | zero =>
    intro i M hd hi hMl hM
    refine ⟨M, by omega, hM, ?_⟩
    by_cases h : i < l.length
    · exact Ev.step (fun k => by rw [columbariumlaw5_shaped.l0, if_pos (by omega), decide_eq_false (by omega)]) (hend i M)
    · exact Ev.step (fun k => by rw [columbariumlaw5_shaped.l0, if_neg (by omega)]) (hend i M)
  | succ d ih =>
    intro i M hd hi hMl hM
    by_cases h : i < l.length
    · obtain ⟨t, ht, e1⟩ := within_some (rd_T25 l (i : Int)).f0 20 (by decide)
      have hnext : ∀ v : Nat, v < 2 ^ w → ∃ R : List Nat, R.length ≤ 240 ∧ (∀ x ∈ R, x < 2 ^ w) ∧ Ev (fun k => columbariumlaw5_shaped.j2 k l (w : Int) (ints M) (i : Int) (t : Int) (v : Int)) (ints R) := by
        intro v hv
        obtain ⟨R, h1, h2, h3⟩ := ih (i + 1) (M ++ List.replicate t v) (by omega) (by omega) (by rw [List.length_append, List.length_replicate]; omega) fun x hx => by
          rcases List.mem_append.1 hx with hx | hx
          · exact hM x hx
          · rw [List.eq_of_mem_replicate hx]
            exact hv
        have h4 := shaped_l1 l w i t v (by omega) M (by omega) _ h3 _ 0 rfl (by omega)
        rw [List.replicate_zero, List.append_nil] at h4
        exact ⟨R, h1, h2, Ev.step (fun k => by rw [columbariumlaw5_shaped.j2]; rfl) h4⟩
      by_cases hw0 : 0 < w
      · obtain ⟨u, hu, e2⟩ := within_some (rd_T25 l (i : Int)).f1 1048576 (by decide)
        obtain ⟨v, hv, e3⟩ := mask_lt (t := u) hw (by omega)
        obtain ⟨R, h1, h2, h3⟩ := hnext v hv
        refine ⟨R, h1, h2, Ev.step (fun k => by rw [columbariumlaw5_shaped.l0, if_pos (by omega), decide_eq_true (by omega)]) (Ev.step (fun k => ?_) h3)⟩
        have e1' : columbariumbook_Within.f (rd_T25 l (i : Int)).f0 0 20 = some (t : Int) := e1
        have e2' : columbariumbook_Within.f (rd_T25 l (i : Int)).f1 0 1048576 = some (u : Int) := e2
        rw [columbariumlaw5_shaped.j1, if_pos rfl, if_pos (by omega), if_pos (by omega), e1', Option.bind_some, if_pos (by omega), e2', Option.bind_some, if_pos (by rw [wu64 (by omega) (by omega)]; omega), e3]
      · obtain ⟨R, h1, h2, h3⟩ := hnext 0 (Nat.two_pow_pos w)
        refine ⟨R, h1, h2, Ev.step (fun k => by rw [columbariumlaw5_shaped.l0, if_pos (by omega), decide_eq_true (by omega)]) (Ev.step (fun k => ?_) h3)⟩
        have e1' : columbariumbook_Within.f (rd_T25 l (i : Int)).f0 0 20 = some (t : Int) := e1
        rw [columbariumlaw5_shaped.j1, if_pos rfl, if_pos (by omega), if_pos (by omega), e1', Option.bind_some, if_neg (by omega)]
        rfl
    · exact ⟨M, by omega, hM, Ev.step (fun k => by rw [columbariumlaw5_shaped.l0, if_neg (by omega)]) (hend i M)⟩
theorem shaped_some (l : List S25) (w : Nat) (hw : w ≤ 32) : ∃ R : List Nat, R.length ≤ 240 ∧ (∀ x ∈ R, x < 2 ^ w) ∧ Ev (fun k => columbariumlaw5_shaped.f k l (w : Int)) (ints R) := by
  obtain ⟨R, h1, h2, h3⟩ := shaped_l0 l w hw _ 0 [] rfl (by omega) (by simp) (by simp)
  exact ⟨R, h1, h2, Ev.congr (fun k => by rw [columbariumlaw5_shaped.f]; rfl) h3⟩

end Go.Proofs.Ytpnnfkefddkjcaa.QRunsLists
