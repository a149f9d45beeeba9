/- A run of any length takes a few bytes. No condition. -/
import Derived.Test.YtpnnfkefddkjcaaTShapedRunsShort
import Derived.Test.YtpnnfkefddkjcaaTRunsEncARunsShort
namespace Go.Proofs.Ytpnnfkefddkjcaa.Pure
open Go.RowKit Go.Proofs.Ytpnnfkefddkjcaa.QRunsShort Go.Proofs.YtpnnfkefddkjcaaW.PrintWords Go.Proofs.YtpnnfkefddkjcaaW.PrintLast Go.Proofs.Ytpnnfkefddkjcaa.Base
set_option linter.unusedVariables false
set_option linter.unusedSimpArgs false

theorem known_ev : Ev (fun k => columbariumlaw5_known.f k) true := Ev.of columbariumlaw5_known.mono (k := 60) (by decide +kernel)
theorem sameN_replicate (n v : Nat) : sameN (List.replicate n v) 0 = n := by
  cases n with
  | zero => simp [sameN, cnt]
  | succ n =>
    unfold sameN cnt
    rw [List.drop_zero, show (List.replicate (n + 1) v).getD 0 0 = v by simp [List.replicate_succ], List.takeWhile_replicate, if_pos (by simp), List.length_replicate]
theorem encS_replicate (n v w : Nat) (hn : 8 ≤ n) : encS (List.replicate n v) w 0 [] = putN (2 * n) ++ fewN v ((w + 7) / 8) := by
  have hl : (List.replicate n v).length = n := List.length_replicate
  rw [encS_run (by omega) (by rw [sameN_replicate]; exact hn), sameN_replicate, encS_end (by omega), List.nil_append]
  congr 2
  cases n with
  | zero => omega
  | succ n => simp [List.replicate_succ]
theorem after_ev (n w : Nat) (hn : 8 ≤ n) (hn2 : n ≤ 2008) (hw : w ≤ 32) (v : Nat) (hv : v < 2 ^ w) (M : List Nat) (hM : M.length = n → M = List.replicate n v) : Ev (fun k => columbariumlaw5_RunsShort.j1 k (n : Int) (w : Int) (ints M)) true := by
  by_cases h : M.length = n
  · obtain rfl := hM h
    have hlt : ∀ x ∈ List.replicate n v, x < 2 ^ w := fun x hx => by rw [List.eq_of_mem_replicate hx]; exact hv
    have hlt64 : ∀ x ∈ List.replicate n v, x < 2 ^ 64 := fun x hx => Nat.lt_of_lt_of_le (hlt x hx) (Nat.pow_le_pow_right (by decide) (by omega))
    have he := enc_ev hlt64 (by rw [List.length_replicate]; omega) (w : Int)
    have hwd := (wd_le _ w).2 hlt
    rw [enc, if_neg (by omega)] at he
    have he : Ev (fun k => runs_Encode.f k (ints (List.replicate n v)) (w : Int)) (ints (putN (2 * n) ++ fewN v ((w + 7) / 8)), 0) := by
      rw [← encS_replicate n v w hn]
      exact he
    have hp := putN_length 1 (2 * n) (Nat.lt_of_le_of_lt (show 2 * n ≤ 4016 by omega) (by decide))
    refine Ev.step (f := fun k => (runs_Encode.f k (ints (List.replicate n v)) (w : Int)).bind fun bt => if bt.2 = 0 then (if (bt.1.length : Int) ≤ ((3 + (w + 7) / 8 : Nat) : Int) then ((columbariumlaw5_known.f k).bind fun t => some t) else some false) else some false) (fun k => ?_) (Ev.bind he ?_)
    · rw [columbariumlaw5_RunsShort.j1, if_pos (by rw [ints_length, List.length_replicate]), w64 (x := (w : Int) + 7) (by omega) (by omega), show (w : Int) + 7 = ((w + 7 : Nat) : Int) by omega, show (8 : Int) = ((8 : Nat) : Int) from rfl, tdiv_nat, w64 (x := (((w + 7) / 8 : Nat) : Int)) (by omega) (by omega), w64 (by omega) (by omega)]
      rfl
    · refine Ev.congr (fun k => by rw [if_pos rfl, if_pos (by rw [ints_length, List.length_append, fewN_length]; omega)]) (Ev.bind known_ev (Ev.now _))
  · refine Ev.step (fun k => by rw [columbariumlaw5_RunsShort.j1, if_neg (by rw [ints_length]; omega)]) (Ev.bind known_ev (Ev.now _))
theorem one_ev (n w : Nat) (hn : 8 ≤ n) (hn2 : n ≤ 2008) (hw : w ≤ 32) (v : Nat) (hv : v < 2 ^ w) (d : Nat) : ∀ j, n - j = d → j ≤ n → Ev (fun k => columbariumlaw5_RunsShort.l0 k (n : Int) (w : Int) (ints [v]) (ints (List.replicate j v)) (j : Int)) true := by
  induction d with
  | zero =>
    intro j hd hj
    obtain rfl : j = n := by omega
    exact Ev.step (fun k => by rw [columbariumlaw5_RunsShort.l0, if_neg (by omega)]) (after_ev j w hn hn2 hw v hv _ fun _ => rfl)
  | succ d ih =>
    intro j hd hj
    refine Ev.step (fun k => ?_) (ih (j + 1) (by omega) (by omega))
    rw [columbariumlaw5_RunsShort.l0, if_pos (by omega), if_pos (by rfl), if_pos (by rw [ints_length, List.length_singleton]; omega), if_pos (by rw [ints_length, List.length_replicate]; omega), succ64 (by omega), List.replicate_succ', ← ints_append]
    rfl
theorem RunsShort : columbariumlaw5_RunsShort.Pure := by
  intro a0 a1 a2 _ _ _
  refine Ev.rounds ?_
  obtain ⟨n, hn, e1⟩ := within_some a0 2000 (by decide)
  obtain ⟨w, hw, e2⟩ := within_some a2 32 (by decide)
  obtain ⟨R, h1, h2, h3⟩ := shaped_some [(⟨1, a1⟩ : S25)] w hw
  have e1' : columbariumbook_Within.f a0 0 2000 = some (n : Int) := e1
  have e2' : columbariumbook_Within.f a2 0 32 = some (w : Int) := e2
  refine Ev.congr (f := fun k => (columbariumlaw5_shaped.f k [(⟨1, a1⟩ : S25)] (w : Int)).bind fun t200 => columbariumlaw5_RunsShort.l0 k ((8 + n : Nat) : Int) (w : Int) t200 (ints []) ((0 : Nat) : Int)) (fun k => ?_) (Ev.bind h3 ?_)
  · rw [columbariumlaw5_RunsShort.f, e1', Option.bind_some, e2', Option.bind_some, w64 (by omega) (by omega)]
    rfl
  · by_cases hR : R.length = 1
    · obtain ⟨v, rfl⟩ : ∃ v, R = [v] := List.length_eq_one_iff.1 hR
      exact one_ev (8 + n) w (by omega) (by omega) hw v (h2 v (by simp)) _ 0 rfl (by omega)
    · refine Ev.step (fun k => by rw [columbariumlaw5_RunsShort.l0, if_pos (by omega), if_neg (by rw [ints_length]; omega)]) (after_ev (8 + n) w (by omega) (by omega) hw 0 (Nat.two_pow_pos w) _ fun h => by simp at h; omega)

end Go.Proofs.Ytpnnfkefddkjcaa.Pure
