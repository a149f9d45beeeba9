/- What was built in may be, whatever else was; in whatever order, and as often, the filter is the same. No condition. -/
import Derived.Test.YtifcocmmapgebaaTBloomBaseBloomMay
import Derived.Test.YtifcocmmapgebaaTBookBloomMay
namespace Go.Proofs.Ytifcocmmapgebaa.Pure
open Go.RowKit Go.Proofs.Ytifcocmmapgebaa.QBloomMay Go.Proofs.YtifcocmmapgebaaW.PrintWords Go.Proofs.YtifcocmmapgebaaW.PrintLast Go.Proofs.Ytifcocmmapgebaa.Base
set_option linter.unusedVariables false
set_option linter.unusedSimpArgs false

theorem set_ext {a b : List ByteArray} (h : ∀ x, x ∈ a ↔ x ∈ b) : dict_set a = dict_set b :=
  rising_ext (set_rises a) (set_rises b) fun x => by rw [mem_set, mem_set]; exact h x
theorem turn_l1 {L : List ByteArray} (hL : L.length ≤ 40) (hs : ∀ s ∈ L, s.size ≤ 9223372036854775807) (q : Nat) (hq : q ≤ 40) (m : Nat) : ∀ i (acc : List ByteArray), L.length - i = m → i ≤ L.length → acc.length = 2 * i → (∀ x ∈ acc, x ∈ L) → (∀ j, j < i → gt L j ∈ acc) →
    Ev (fun k => columbariumlaw9_BloomMay.l1 k L acc (q : Int) (i : Int) ((fbits L : Nat) : Int) (ints (fbytes L))) true := by
  induction m with
  | zero =>
    intro i acc hm hi ha h1 h2
    have e : dict_set acc = dict_set L := set_ext fun x => ⟨h1 x, fun hx => by
      obtain ⟨j, hj, rfl⟩ := mem_gt hx
      exact h2 j (by omega)⟩
    have eb : fbits acc = fbits L := by rw [fbits, fbits, e]
    have ey : fbytes acc = fbytes L := by rw [fbytes, fbytes, eb, e]
    have hb := build_ev acc (by omega) (Nat.le_trans (set_length _) (by omega)) (fun s h => hs s (h1 s h))
    rw [eb, ey] at hb
    refine Ev.step (fun k => by rw [columbariumlaw9_BloomMay.l1, if_neg (by omega)]) (Ev.bind hb ?_)
    exact Ev.congr (fun k => by rw [if_pos rfl, if_pos rfl, right_f, Option.bind_some, if_pos rfl]) (Ev.bind known_ev (Ev.now _))
  | succ m ih =>
    intro i acc hm hi ha h1 h2
    have h3 : i < L.length := by omega
    have h4 : (i + q) % L.length < L.length := Nat.mod_lt _ (by omega)
    have e1 : wrap64 ((i : Int) + (q : Int)) = ((i + q : Nat) : Int) := by rw [w64 (by omega) (by omega)]; omega
    have e2 : Int.tmod ((i + q : Nat) : Int) (L.length : Int) = (((i + q) % L.length : Nat) : Int) := tmod_nat _ _
    refine Ev.step (fun k => ?_) (ih (i + 1) (acc ++ [gt L ((i + q) % L.length), gt L i]) (by omega) (by omega) (by rw [List.length_append, ha]; simp; omega) (fun x hx => ?_) (fun j hj => ?_))
    · generalize (i + q) % L.length = t at *
      rw [columbariumlaw9_BloomMay.l1, if_pos (by omega), if_neg (by omega), e1, e2, if_pos (by omega), if_pos (by omega), if_pos (by omega), rd_gt, rd_gt, Option.bind_some, if_pos (by simp only [List.length_cons, List.length_nil]; omega), succ64 (by omega)]
    · rcases List.mem_append.1 hx with h | h
      · exact h1 x h
      · simp only [List.mem_cons, List.not_mem_nil, or_false] at h
        rcases h with rfl | rfl
        · exact gt_mem L _ h4
        · exact gt_mem L _ h3
    · by_cases h : j = i
      · subst h
        simp
      · exact List.mem_append_left _ (h2 j (by omega))
theorem may_l0 {L : List ByteArray} (hL : L.length ≤ 40) (hs : ∀ s ∈ L, s.size ≤ 9223372036854775807) (a1 : Int) (m : Nat) : ∀ i, L.length - i = m → i ≤ L.length →
    Ev (fun k => columbariumlaw9_BloomMay.l0 k L a1 (i : Int) ((fbits L : Nat) : Int) (ints (fbytes L))) true := by
  induction m with
  | zero =>
    intro i hm hi
    by_cases h : (L.length : Int) > 0
    · obtain ⟨q, hq, e⟩ := within_some a1 (L.length - 1) (by omega)
      have e1 : wrap64 ((L.length : Int) - 1) = ((L.length - 1 : Nat) : Int) := by rw [w64 (by omega) (by omega)]; omega
      refine Ev.step (f := fun k => columbariumlaw9_BloomMay.j1 k L [] (q : Int) ((fbits L : Nat) : Int) (ints (fbytes L))) (fun k => by rw [columbariumlaw9_BloomMay.l0, if_neg (by omega), if_pos h, e1, e, Option.bind_some]) ?_
      exact Ev.step (fun k => by rw [columbariumlaw9_BloomMay.j1]; rfl) (turn_l1 hL hs q (by omega) _ 0 [] rfl (Nat.zero_le _) rfl (by simp) (fun j hj => absurd hj (by omega)))
    · refine Ev.step (f := fun k => columbariumlaw9_BloomMay.j1 k L [] ((0 : Nat) : Int) ((fbits L : Nat) : Int) (ints (fbytes L))) (fun k => by rw [columbariumlaw9_BloomMay.l0, if_neg (by omega), if_neg h]; rfl) ?_
      exact Ev.step (fun k => by rw [columbariumlaw9_BloomMay.j1]; rfl) (turn_l1 hL hs 0 (by omega) _ 0 [] rfl (Nat.zero_le _) rfl (by simp) (fun j hj => absurd hj (by omega)))
  | succ m ih =>
    intro i hm hi
    have h1 : i < L.length := by omega
    have hmay := may_ev L (gt L i) (hs _ (gt_mem L i h1))
    rw [may_self L (gt_mem L i h1)] at hmay
    refine Ev.step (fun k => by rw [columbariumlaw9_BloomMay.l0, if_pos (by omega), if_pos (by omega), rd_gt, succ64 (by omega)]) (Ev.bind hmay ?_)
    exact Ev.congr (fun k => by rw [if_pos rfl]) (ih (i + 1) (by omega) (by omega))
theorem BloomMay : columbariumlaw9_BloomMay.Pure := by
  intro l0 a1 _ hs _
  refine Ev.rounds ?_
  have hL : (l0.take 40).length ≤ 40 := by rw [List.length_take]; omega
  have hs' : ∀ s ∈ l0.take 40, s.size ≤ 9223372036854775807 := fun s h => hs s (List.mem_of_mem_take h)
  have hf := few_f l0
  generalize l0.take 40 = L at hL hs' hf
  have hb := build_ev L (by omega) (Nat.le_trans (set_length _) (by omega)) hs'
  exact Ev.congr (fun k => by rw [columbariumlaw9_BloomMay.f, hf, Option.bind_some]) (Ev.bind hb (may_l0 hL hs' a1 _ 0 rfl (Nat.zero_le _)))

end Go.Proofs.Ytifcocmmapgebaa.Pure
