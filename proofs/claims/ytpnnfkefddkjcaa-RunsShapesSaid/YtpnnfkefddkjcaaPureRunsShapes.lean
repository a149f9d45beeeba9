/- Numbers in runs of any lengths, and their bytes with one turned, or cut off, are written and read as the document says. No condition. -/
import Derived.Test.YtpnnfkefddkjcaaTRunsDecRunsShapes
import Derived.Test.YtpnnfkefddkjcaaTRunsBoundRunsShapes
import Derived.Test.YtpnnfkefddkjcaaTSame64RunsShapes
import Derived.Test.YtpnnfkefddkjcaaTShapedRunsShapes
namespace Go.Proofs.Ytpnnfkefddkjcaa.Pure
open Go.RowKit Go.Proofs.Ytpnnfkefddkjcaa.QRunsShapes Go.Proofs.YtpnnfkefddkjcaaW.PrintWords Go.Proofs.YtpnnfkefddkjcaaW.PrintLast Go.Proofs.Ytpnnfkefddkjcaa.Base
set_option linter.unusedVariables false
set_option linter.unusedSimpArgs false

theorem known_ev : Ev (fun k => columbariumlaw5_known.f k) true := Ev.of columbariumlaw5_known.mono (k := 60) (by decide +kernel)
theorem shapes_j1 (w : Nat) (n : Int) (M : List Int) (hM : (M.length : Int) = n) (B : List Nat) (hB : ∀ x ∈ B, x < 256) (hl : B.length ≤ 140737488351232) : Ev (fun k => columbariumlaw5_RunsShapes.j1 k (w : Int) M (ints B)) true := by
  obtain ⟨r, ⟨R, hR, hRl, _⟩, hr1, hr2⟩ := dec_both hB hl 0 (M.length : Int) (w : Int)
  refine Ev.step (fun k => by rw [columbariumlaw5_RunsShapes.j1]) (Ev.bind hr1 (Ev.bind hr2 ?_))
  have hs := same64_ev R R (by omega)
  rw [← hR, decide_eq_true rfl] at hs
  exact Ev.bind hs (Ev.congr (fun k => by rw [if_pos rfl, if_pos rfl, if_pos rfl]) (Ev.bind known_ev (Ev.now _)))
theorem RunsShapes : columbariumlaw5_RunsShapes.Pure := by
  intro l a1 a2 a3 a4 _ _ _ _ _
  refine Ev.rounds ?_
  obtain ⟨w, hw, e1⟩ := within_some a1 32 (by decide)
  have e1' : columbariumbook_Within.f a1 0 32 = some (w : Int) := e1
  obtain ⟨M, hMl, hM, hs⟩ := shaped_some l w hw
  have hM64 : ∀ x ∈ M, x < 2 ^ 64 := fun x hx => Nat.lt_of_lt_of_le (hM x hx) (Nat.pow_le_pow_right (by decide) (by omega))
  have hsz := enc_size (L := M) (by omega) (w : Int)
  have hby := enc_bytes M (w : Int)
  refine Ev.congr (fun k => by rw [columbariumlaw5_RunsShapes.f, e1', Option.bind_some]) (Ev.bind hs (Ev.bind (enc_ev hM64 (by omega) _) (Ev.bind (enc5_ev hM64 (by omega) _) ?_)))
  generalize (enc M (w : Int)).1 = B at hsz hby
  refine Ev.congr (f := fun k => columbariumlaw5_RunsShapes.j0 k (w : Int) a2 a3 a4 (ints M) (ints B) false) (fun k => by rw [if_pos rfl, bne_self_eq_false]) ?_
  by_cases h0 : 0 < B.length
  · obtain ⟨p, hp, e2⟩ := within_some a2 (B.length - 1) (by omega)
    obtain ⟨v, hv⟩ : ∃ v : Nat, Go.bits .xor .u8 (rd (ints B) (p : Int)) a3 = (v : Int) ∧ v < 256 := by
      have h : ∀ z : Int, 0 ≤ IntKind.u8.wrap z ∧ IntKind.u8.wrap z < 256 := fun z => by rw [IntKind.wrap_u8]; omega
      have := h (Int.ofNat 0)
      obtain ⟨x, hx⟩ : ∃ x, Go.bits .xor .u8 (rd (ints B) (p : Int)) a3 = IntKind.u8.wrap x := ⟨_, rfl⟩
      have h2 := h x
      exact ⟨(IntKind.u8.wrap x).toNat, by rw [hx]; omega, by omega⟩
    have hset : ∀ x ∈ B.set p v, x < 256 := fun x hx => (List.mem_or_eq_of_mem_set hx).elim (hby x) (fun e => by rw [e]; exact hv.2)
    have key : ∀ k, columbariumlaw5_RunsShapes.j0 (k + 1) (w : Int) a2 a3 a4 (ints M) (ints B) false = (if a4 = true then columbariumlaw5_RunsShapes.j1 k (w : Int) (ints M) (ints ((B.set p v).take p)) else columbariumlaw5_RunsShapes.j1 k (w : Int) (ints M) (ints (B.set p v))) := by
      intro k
      rw [columbariumlaw5_RunsShapes.j0, if_neg (by decide), if_pos (by rw [ints_length]; omega), ints_length, show wrap64 ((B.length : Int) - 1) = ((B.length - 1 : Nat) : Int) from by rw [w64 (by omega) (by omega)]; omega, e2, Option.bind_some, if_pos (by omega), if_pos (by omega), Option.bind_some, hv.1, Int.toNat_natCast, ints_set, ints_take]
      cases a4
      · rfl
      · rw [if_pos rfl, if_pos rfl, if_pos (by omega)]
    cases a4 with
    | true =>
      refine Ev.step (f := fun k => columbariumlaw5_RunsShapes.j1 k (w : Int) (ints M) (ints ((B.set p v).take p))) (fun k => by rw [key, if_pos rfl]) (shapes_j1 w _ (ints M) rfl _ (fun x hx => hset x (List.mem_of_mem_take hx)) ?_)
      rw [List.length_take, List.length_set]
      omega
    | false =>
      refine Ev.step (f := fun k => columbariumlaw5_RunsShapes.j1 k (w : Int) (ints M) (ints (B.set p v))) (fun k => by rw [key, if_neg (by decide)]) (shapes_j1 w _ (ints M) rfl _ hset ?_)
      rw [List.length_set]
      omega
  · refine Ev.step (f := fun k => columbariumlaw5_RunsShapes.j1 k (w : Int) (ints M) (ints B)) (fun k => ?_) (shapes_j1 w _ (ints M) rfl B hby (by omega))
    rw [columbariumlaw5_RunsShapes.j0, if_neg (by decide), if_neg (by rw [ints_length]; omega)]

end Go.Proofs.Ytpnnfkefddkjcaa.Pure
