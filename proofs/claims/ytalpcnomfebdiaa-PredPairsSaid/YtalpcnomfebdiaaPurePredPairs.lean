/- Not both is one not or the other not; Between parts the time in three; Less, Equal and greater part the Ints of a column. -/
import Derived.Test.YtalpcnomfebdiaaTPredTreePredPairs
namespace Go.Proofs.Ytalpcnomfebdiaa.QPredPairs
open Go.RowKit Go.Proofs.YtalpcnomfebdiaaW.PrintWords Go.Proofs.YtalpcnomfebdiaaW.PrintLast Go.Proofs.YtalpcnomfebdiaaW.PrintMore Go.Proofs.Ytalpcnomfebdiaa.Base
set_option linter.unusedVariables false
set_option linter.unusedSimpArgs false

def nd (a : Int) (l : List S25) : S25 := ⟨a, ⟨#[]⟩, 0, 0, ⟨#[]⟩, [], l⟩
theorem known_ev : Ev (fun k => columbariumlaw13_known.f k) true := Ev.of columbariumlaw13_known.mono (k := 60) (by decide +kernel)
theorem nots_ev (x : S25) : Ev (fun k => columbariumlaw13_nots.f k x.f0 x.f1 x.f2 x.f3 x.f4 x.f5 x.f6 1) (tp (nd 3 [x])) := by
  have h : Ev (fun k => columbariumlaw13_nots.l0 k 1 x.f0 x.f1 x.f2 x.f3 x.f4 x.f5 x.f6) (tp (nd 3 [x])) := by
    refine Ev.step (f := fun k => columbariumlaw13_nots.l0 k 0 3 (⟨#[]⟩ : ByteArray) 0 0 (⟨#[]⟩ : ByteArray) ([] : List ByteArray) [x]) (fun k => ?_) ?_
    · rw [columbariumlaw13_nots.l0, if_pos (by decide), show wrap64 ((1 : Int) - 1) = 0 by rw [w64 (by omega) (by omega)]; rfl]
      cases x; rfl
    · exact Ev.step (f := fun _ => some (tp (nd 3 [x]))) (fun k => by rw [columbariumlaw13_nots.l0, if_neg (by decide)]; rfl) (Ev.now _)
  exact h
theorem btw_ev (n m t0 s : Int) (L : List S52) : Ev (fun k => pred_Eval.f k 10 (⟨#[]⟩ : ByteArray) n m (⟨#[]⟩ : ByteArray) ([] : List ByteArray) ([] : List S25) t0 s L) (decide (n ≤ t0) && decide (t0 ≤ m)) := by
  by_cases h : n ≤ t0
  · rw [decide_eq_true h, Bool.true_and]
    exact Ev.step (f := fun _ => some (decide (t0 ≤ m))) (fun k => by rw [pred_Eval.f, if_neg (by decide), if_neg (by decide), if_neg (by decide), if_pos rfl, if_pos h]) (Ev.now _)
  · rw [decide_eq_false h, Bool.false_and]
    exact Ev.step (f := fun _ => some false) (fun k => by rw [pred_Eval.f, if_neg (by decide), if_neg (by decide), if_neg (by decide), if_pos rfl, if_neg h]) (Ev.now _)
/-- The column's cell, and what the four questions say of it. -/
theorem col_ev (t0 s : Int) (L : List S52) (hL : L.length ≤ 10) : ∃ c1 c2 : Int,
    (∀ n : Int, Ev (fun k => pred_Eval.f k 4 (⟨#[97]⟩ : ByteArray) n 0 (⟨#[]⟩ : ByteArray) ([] : List ByteArray) ([] : List S25) t0 s L) (decide (c1 = 1) && decide (c2 < n))) ∧
    (∀ n : Int, Ev (fun k => pred_Eval.f k 5 (⟨#[97]⟩ : ByteArray) n 0 (⟨#[]⟩ : ByteArray) ([] : List ByteArray) ([] : List S25) t0 s L) (decide (c1 = 1) && (c2 == n))) ∧
    Ev (fun k => pred_Eval.f k 9 (⟨#[97]⟩ : ByteArray) 0 0 (⟨#[]⟩ : ByteArray) ([] : List ByteArray) ([] : List S25) t0 s L) (c1 == 0) := by
  obtain ⟨c, hc⟩ := rowCell_ev t0 s L (⟨#[97]⟩ : ByteArray) (by omega)
  refine ⟨c.2.1, c.2.2.1, fun n => ?_, fun n => ?_, ?_⟩
  · refine Ev.step (fun k => by rw [pred_Eval.f, if_neg (by decide), if_neg (by decide), if_neg (by decide), if_neg (by decide)]) (Ev.bind hc ?_)
    by_cases h : c.2.1 = 1
    · exact Ev.congr (f := fun _ => some _) (fun k => by rw [pred_Cell.f, if_pos rfl, if_pos h, decide_eq_true h, Bool.true_and]) (Ev.now _)
    · exact Ev.congr (f := fun _ => some _) (fun k => by rw [pred_Cell.f, if_pos rfl, if_neg h, decide_eq_false h, Bool.false_and]) (Ev.now _)
  · refine Ev.step (fun k => by rw [pred_Eval.f, if_neg (by decide), if_neg (by decide), if_neg (by decide), if_neg (by decide)]) (Ev.bind hc ?_)
    by_cases h : c.2.1 = 1
    · exact Ev.congr (f := fun _ => some _) (fun k => by rw [pred_Cell.f, if_neg (by decide), if_pos rfl, if_pos h, decide_eq_true h, Bool.true_and]) (Ev.now _)
    · exact Ev.congr (f := fun _ => some _) (fun k => by rw [pred_Cell.f, if_neg (by decide), if_pos rfl, if_neg h, decide_eq_false h, Bool.false_and]) (Ev.now _)
  · refine Ev.step (fun k => by rw [pred_Eval.f, if_neg (by decide), if_neg (by decide), if_neg (by decide), if_neg (by decide)]) (Ev.bind hc ?_)
    exact Ev.congr (f := fun _ => some _) (fun k => by rw [pred_Cell.f, if_neg (by decide), if_neg (by decide), if_neg (by decide), if_neg (by decide), if_neg (by decide), if_pos rfl]) (Ev.now _)
theorem pairs_end {n t0 s : Int} {L : List S52} (hL : L.length ≤ 10) (h1 : -9223372036854775808 ≤ n) (h2 : n < 9223372036854775807) (y : List S25) (hy : y.length < 1000) (i : Nat) (hi : i = y.length) :
    Ev (fun k => columbariumlaw13_PredPairs.l0 k n ((1 : Nat) : Int) y (y.length : Int) (i : Int) t0 s L) true := by
  obtain ⟨c1, c2, hless, hequal, hnull⟩ := col_ev t0 s L hL
  have e : wrap64 (n + 1) = n + 1 := w64 (by omega) (by omega)
  refine Ev.step (fun k => by rw [columbariumlaw13_PredPairs.l0, if_neg (by omega), e]) (Ev.bind (hless n) (Ev.bind (hequal n) (Ev.bind (hless (n + 1)) ?_)))
  refine Ev.congr (fun k => by rw [if_pos (show ((1 : Nat) : Int) = 1 from rfl)]) ?_
  by_cases c : c1 = 1
  · have hn : (c1 == 0) = false := by rw [c]; rfl
    rw [hn] at hnull
    rw [decide_eq_true c]
    simp only [Bool.true_and]
    rcases Int.lt_trichotomy c2 n with h | h | h
    · rw [decide_eq_true h, decide_eq_true (show c2 < n + 1 by omega), show (c2 == n) = false from beq_eq_false_iff_ne.2 (by omega)]
      simp only [if_true, beq_self_eq_true, Bool.false_eq_true, if_false]
      exact Ev.bind hnull (Ev.congr (fun k => by rw [if_neg (by decide)]) (Ev.bind known_ev (Ev.now _)))
    · rw [decide_eq_false (show ¬ c2 < n by omega), decide_eq_true (show c2 < n + 1 by omega), show (c2 == n) = true from beq_iff_eq.2 h]
      simp only [if_true, beq_self_eq_true, Bool.false_eq_true, if_false]
      exact Ev.bind hnull (Ev.congr (fun k => by rw [if_neg (by decide)]) (Ev.bind known_ev (Ev.now _)))
    · rw [decide_eq_false (show ¬ c2 < n by omega), decide_eq_false (show ¬ c2 < n + 1 by omega), show (c2 == n) = false from beq_eq_false_iff_ne.2 (by omega)]
      simp only [if_true, beq_self_eq_true, Bool.false_eq_true, if_false]
      exact Ev.bind hnull (Ev.congr (fun k => by rw [if_neg (by decide)]) (Ev.bind known_ev (Ev.now _)))
  · rw [decide_eq_false c]
    simp only [Bool.false_and, Bool.false_eq_true, if_false, beq_self_eq_true, if_true]
    refine Ev.bind hnull ?_
    by_cases h0 : (c1 == 0) = true
    · exact Ev.congr (fun k => by rw [if_pos h0]) (Ev.bind known_ev (Ev.now _))
    · exact Ev.congr (fun k => by rw [if_neg h0]) (Ev.bind known_ev (Ev.now _))
theorem pairs_step {n t0 s : Int} {L : List S52} {y : List S25} (hy : y.length < 1000) (i c : Nat) (hc : c < 1000) (h : i < y.length) {b : Bool}
    (hb : Ev (fun k => pred_Eval.f k (y[i]).f0 (y[i]).f1 (y[i]).f2 (y[i]).f3 (y[i]).f4 (y[i]).f5 (y[i]).f6 t0 s L) b) {r : Bool}
    (nxt : Ev (fun k => columbariumlaw13_PredPairs.l0 k n ((c + b.toNat : Nat) : Int) y (y.length : Int) ((i + 1 : Nat) : Int) t0 s L) r) :
    Ev (fun k => columbariumlaw13_PredPairs.l0 k n (c : Int) y (y.length : Int) (i : Int) t0 s L) r := by
  refine Ev.step (fun k => by rw [columbariumlaw13_PredPairs.l0, if_pos (by omega), if_pos (by omega), if_pos (by omega), rd25 y i h]) (Ev.bind hb ?_)
  cases b with
  | true => exact Ev.congr (fun k => by rw [if_pos rfl, succ64 (by omega), succ64 (by omega)]; rfl) nxt
  | false => exact Ev.congr (fun k => by rw [if_neg Bool.false_ne_true, succ64 (by omega)]; rfl) nxt
theorem pairs_j2 {n m t0 s : Int} {L : List S52} (hL : L.length ≤ 10) (hn : -9223372036854775808 < n) (hnm : n ≤ m) (hm : m < 9223372036854775807) (ht : -9223372036854775808 ≤ t0 ∧ t0 ≤ 9223372036854775807) :
    Ev (fun k => columbariumlaw13_PredPairs.j2 k n m false t0 s L) true := by
  have e1 : wrap64 (n - 1) = n - 1 := w64 (by omega) (by omega)
  have e2 : wrap64 (m + 1) = m + 1 := w64 (by omega) (by omega)
  refine Ev.step (fun k => by rw [columbariumlaw13_PredPairs.j2, if_neg Bool.false_ne_true, Option.bind_some, e1, e2]) ?_
  generalize hy : ([⟨10, (⟨#[]⟩ : ByteArray), (-9223372036854775808), n - 1, (⟨#[]⟩ : ByteArray), ([] : List ByteArray), ([] : List S25)⟩, ⟨10, (⟨#[]⟩ : ByteArray), n, m, (⟨#[]⟩ : ByteArray), ([] : List ByteArray), ([] : List S25)⟩, ⟨10, (⟨#[]⟩ : ByteArray), m + 1, 9223372036854775807, (⟨#[]⟩ : ByteArray), ([] : List ByteArray), ([] : List S25)⟩] : List S25) = y
  have b0 := btw_ev (-9223372036854775808) (n - 1) t0 s L
  have b1 := btw_ev n m t0 s L
  have b2 := btw_ev (m + 1) 9223372036854775807 t0 s L
  have hl : y.length = 3 := by rw [← hy]; rfl
  have g0 : y[0]'(by omega) = ⟨10, (⟨#[]⟩ : ByteArray), (-9223372036854775808), n - 1, (⟨#[]⟩ : ByteArray), ([] : List ByteArray), ([] : List S25)⟩ := by subst hy; rfl
  have g1 : y[1]'(by omega) = ⟨10, (⟨#[]⟩ : ByteArray), n, m, (⟨#[]⟩ : ByteArray), ([] : List ByteArray), ([] : List S25)⟩ := by subst hy; rfl
  have g2 : y[2]'(by omega) = ⟨10, (⟨#[]⟩ : ByteArray), m + 1, 9223372036854775807, (⟨#[]⟩ : ByteArray), ([] : List ByteArray), ([] : List S25)⟩ := by subst hy; rfl
  have fin := pairs_end (t0 := t0) (s := s) hL (show -9223372036854775808 ≤ n by omega) (show n < 9223372036854775807 by omega) y (by omega) 3 hl.symm
  refine pairs_step (by omega) 0 0 (by omega) (by omega) (by rw [g0]; exact b0) (pairs_step (by omega) 1 _ (by have := Bool.toNat_le (decide (-9223372036854775808 ≤ t0) && decide (t0 ≤ n - 1)); omega) (by omega) (by rw [g1]; exact b1) (pairs_step (by omega) 2 _ (by have := Bool.toNat_le (decide (-9223372036854775808 ≤ t0) && decide (t0 ≤ n - 1)); have := Bool.toNat_le (decide (n ≤ t0) && decide (t0 ≤ m)); omega) (by omega) (by rw [g2]; exact b2) ?_))
  have cnt1 : 0 + (decide (-9223372036854775808 ≤ t0) && decide (t0 ≤ n - 1)).toNat + (decide (n ≤ t0) && decide (t0 ≤ m)).toNat + (decide (m + 1 ≤ t0) && decide (t0 ≤ 9223372036854775807)).toNat = 1 := by
    rw [decide_eq_true ht.1, decide_eq_true ht.2, Bool.true_and, Bool.and_true]
    by_cases h1 : t0 ≤ n - 1
    · rw [decide_eq_true h1, decide_eq_false (show ¬ n ≤ t0 by omega), decide_eq_false (show ¬ m + 1 ≤ t0 by omega)]; rfl
    · rw [decide_eq_false h1, decide_eq_true (show n ≤ t0 by omega)]
      by_cases h2 : t0 ≤ m
      · rw [decide_eq_true h2, decide_eq_false (show ¬ m + 1 ≤ t0 by omega)]; rfl
      · rw [decide_eq_false h2, decide_eq_true (show m + 1 ≤ t0 by omega)]; rfl
  rw [cnt1]
  exact fin
theorem pairs_j1 {n m t0 s : Int} {L : List S52} (hL : L.length ≤ 10) (hn : -9223372036854775808 ≤ n) (hnm : n ≤ m) (hm : m ≤ 9223372036854775807) (ht : -9223372036854775808 ≤ t0 ∧ t0 ≤ 9223372036854775807) :
    Ev (fun k => columbariumlaw13_PredPairs.j1 k n m t0 s L) true := by
  have hk : Ev (fun k => columbariumlaw13_PredPairs.j2 k n m true t0 s L) true := Ev.step (fun k => by rw [columbariumlaw13_PredPairs.j2, if_pos rfl]) (Ev.bind known_ev (Ev.now _))
  by_cases h1 : n = -9223372036854775808
  · exact Ev.step (fun k => by rw [columbariumlaw13_PredPairs.j1, if_pos h1]) hk
  · by_cases h2 : m = 9223372036854775807
    · exact Ev.step (fun k => by rw [columbariumlaw13_PredPairs.j1, if_neg h1, beq_iff_eq.2 h2]) hk
    · exact Ev.step (fun k => by rw [columbariumlaw13_PredPairs.j1, if_neg h1, beq_eq_false_iff_ne.2 h2]) (pairs_j2 hL (by omega) hnm (by omega) ht)
theorem pairs_j0 {n m t0 s : Int} {L : List S52} (hL : L.length ≤ 10) (hn : -9223372036854775808 ≤ n ∧ n ≤ 9223372036854775807) (hm : -9223372036854775808 ≤ m ∧ m ≤ 9223372036854775807) (ht : -9223372036854775808 ≤ t0 ∧ t0 ≤ 9223372036854775807) :
    Ev (fun k => columbariumlaw13_PredPairs.j0 k n m false t0 s L) true := by
  by_cases h : n > m
  · exact Ev.step (fun k => by rw [columbariumlaw13_PredPairs.j0, if_neg Bool.false_ne_true, if_pos h]) (pairs_j1 hL hm.1 (by omega) hn.2 ht)
  · exact Ev.step (fun k => by rw [columbariumlaw13_PredPairs.j0, if_neg Bool.false_ne_true, if_neg h]) (pairs_j1 hL hn.1 (by omega) hm.2 ht)

end Go.Proofs.Ytalpcnomfebdiaa.QPredPairs
namespace Go.Proofs.Ytalpcnomfebdiaa.Pure
open Go.RowKit Go.Proofs.Ytalpcnomfebdiaa.QPredPairs Go.Proofs.YtalpcnomfebdiaaW.PrintWords Go.Proofs.YtalpcnomfebdiaaW.PrintLast Go.Proofs.Ytalpcnomfebdiaa.Base

theorem wf_range {x : Int} (h : (Lit.int .i64 x).wf = true) : -9223372036854775808 ≤ x ∧ x ≤ 9223372036854775807 := by
  simp [Lit.wf, IntKind.min, IntKind.max, IntKind.bits, IntKind.signed] at h
  omega
theorem PredPairs : columbariumlaw13_PredPairs.Pure := by
  intro a0 a1 a2 a3 a4 sa la b0 b1 b2 b3 b4 sb lb c0 c1 c2 n m _ _ _ _ _ _ _ _ _ _ _ _ _ _ hc0 _ _ hn hm
  obtain ⟨p, hp, gp, cp⟩ := cut_ev 3 (by decide) ⟨a0, a1, a2, a3, a4, sa, la⟩
  obtain ⟨q, hq, gq, cq⟩ := cut_ev 3 (by decide) ⟨b0, b1, b2, b3, b4, sb, lb⟩
  have cb : cutB 3 = 85 := by decide
  obtain ⟨L, hL, ht⟩ := tame_at c0 c1 1 c2
  have hp' : Ev (fun k => columbariumkeep_Cut.f k a0 a1 a2 a3 a4 sa la 3) (tp p) := hp
  have hq' : Ev (fun k => columbariumkeep_Cut.f k b0 b1 b2 b3 b4 sb lb 3) (tp q) := hq
  have htt : -9223372036854775808 ≤ Int.tmod c0 100 ∧ Int.tmod c0 100 ≤ 9223372036854775807 := by
    have h1 := Int.lt_tmod_of_pos c0 (show (0 : Int) < 100 by decide)
    have h2 := Int.tmod_lt_of_pos c0 (show (0 : Int) < 100 by decide)
    omega
  generalize Int.tmod c0 100 = t0 at ht htt
  have hev : ∀ x : S25, Slim x → cnt x < 1000000 → Ev (fun k => pred_Eval.f k x.f0 x.f1 x.f2 x.f3 x.f4 x.f5 x.f6 t0 1 L) (ev (t0, 1, L) x) := fun x hg hc => eval_ev (t0, 1, L) (by simp only; omega) x hg hc
  have gl : ∀ (a : Int) (l : List S25), (∀ y ∈ l, Slim y) → Slim (nd a l) := fun a l h => ⟨by simp [nd], h⟩
  have cl : ∀ (a : Int) (l : List S25), cnt (nd a l) = 1 + cntL l := fun a l => cnt_eq _
  have g2 : ∀ y ∈ [p, q], Slim y := by intro y hy; rcases List.mem_cons.1 hy with rfl | hy; exact gp; rw [List.mem_singleton.1 hy]; exact gq
  have gnp : Slim (nd 3 [p]) := gl 3 [p] (fun y hy => by rw [List.mem_singleton.1 hy]; exact gp)
  have gnq : Slim (nd 3 [q]) := gl 3 [q] (fun y hy => by rw [List.mem_singleton.1 hy]; exact gq)
  have hall := hev (nd 1 [p, q]) (gl 1 _ g2) (by rw [cl]; simp only [cntL]; omega)
  have hnall := hev (nd 3 [nd 1 [p, q]]) (gl 3 _ (fun y hy => by rw [List.mem_singleton.1 hy]; exact gl 1 _ g2)) (by rw [cl]; simp only [cntL, cl]; omega)
  have hsome := hev (nd 2 [nd 3 [p], nd 3 [q]]) (gl 2 _ (fun y hy => by rcases List.mem_cons.1 hy with rfl | hy; exact gnp; rw [List.mem_singleton.1 hy]; exact gnq)) (by rw [cl]; simp only [cntL, cl]; omega)
  have e3 : ∀ x, ev (t0, 1, L) (nd 3 [x]) = !ev (t0, 1, L) x := fun x => by rw [ev_eq, if_neg (by simp [nd]), if_neg (by simp [nd]), if_pos (by simp [nd])]; simp only [nd, evN]
  have e1 : ev (t0, 1, L) (nd 1 [p, q]) = (ev (t0, 1, L) p && ev (t0, 1, L) q) := by rw [ev_eq, if_pos (by simp [nd])]; simp only [nd, evA, Bool.and_true]
  have e2 : ev (t0, 1, L) (nd 2 [nd 3 [p], nd 3 [q]]) = (!ev (t0, 1, L) p || !ev (t0, 1, L) q) := by rw [ev_eq, if_neg (by simp [nd]), if_pos (by simp [nd])]; simp only [nd, evO, Bool.or_false]; rw [← nd, ← nd, e3, e3]
  rw [e3, e1] at hnall
  rw [e2] at hsome
  rw [e1] at hall
  have hj := pairs_j0 (s := 1) (t0 := t0) (L := L) (by omega) (wf_range hn) (wf_range hm) htt
  refine Ev.rounds (g := fun k => columbariumlaw13_PredPairs.f k a0 a1 a2 a3 a4 sa la b0 b1 b2 b3 b4 sb lb c0 c1 c2 n m) (Ev.congr (fun k => by rw [columbariumlaw13_PredPairs.f]) (Ev.bind hp' (Ev.bind hq' (Ev.bind ht ?_))))
  simp only [Option.bind_some]
  refine Ev.bind (nots_ev p) (Ev.bind (nots_ev q) ?_)
  simp only [tp_mk]
  refine Ev.bind (nots_ev (nd 1 [p, q])) (Ev.bind hnall (Ev.bind hsome ?_))
  have hne : ((!(ev (t0, 1, L) p && ev (t0, 1, L) q)) != (!ev (t0, 1, L) p || !ev (t0, 1, L) q)) = false := by cases ev (t0, 1, L) p <;> cases ev (t0, 1, L) q <;> rfl
  rw [hne]
  simp only [Bool.false_eq_true, if_false, tp]
  refine Ev.bind hall (Ev.bind (hev p gp (by omega)) ?_)
  cases hpv : ev (t0, 1, L) p with
  | true =>
    refine Ev.congr (fun k => by rw [if_pos rfl]) (Ev.bind (hev q gq (by omega)) ?_)
    rw [Bool.true_and, bne_self_eq_false]
    exact hj
  | false =>
    rw [Bool.false_and, bne_self_eq_false]
    exact Ev.congr (fun k => by rw [if_neg Bool.false_ne_true]) hj

end Go.Proofs.Ytalpcnomfebdiaa.Pure
