/- With more texts built in, as long as the bits are as many, all that may be still may; the bits are at least eight a text, and a power of two. No condition. -/
import Derived.Test.YtifcocmmapgebaaTBloomBaseBloomMore
namespace Go.Proofs.Ytifcocmmapgebaa.Pure
open Go.RowKit Go.Proofs.Ytifcocmmapgebaa.QBloomMore Go.Proofs.YtifcocmmapgebaaW.PrintWords Go.Proofs.YtifcocmmapgebaaW.PrintLast Go.Proofs.Ytifcocmmapgebaa.Base
set_option linter.unusedVariables false
set_option linter.unusedSimpArgs false
set_option linter.unusedSectionVars false

theorem bitsOf_mono {a b : Nat} (h : a ≤ b) : bitsOf a ≤ bitsOf b := by
  unfold bitsOf
  repeat' split
  all_goals omega
theorem bitsOf_enough {m : Nat} (h : m ≤ 128) : 8 * m ≤ bitsOf m := by
  unfold bitsOf
  repeat' split
  all_goals omega
theorem bitsOf_few (m : Nat) (h : 64 < bitsOf m) : bitsOf m / 2 < 8 * m := by
  unfold bitsOf at *
  repeat' split at h
  all_goals first | omega | (repeat' split) <;> omega
theorem mem_put_iff {s y : ByteArray} {l : List ByteArray} : y ∈ dict_put s l ↔ y = s ∨ y ∈ l := by
  have h := DictSort.mem_put s.data.toList y.data.toList (l.map (·.data.toList))
  rw [← DictSort.put_map, mem_data, mem_data] at h
  rw [h]
  exact or_congr_left ⟨fun e => ba_ext (by rw [ByteArray.toList_eq, ByteArray.toList_eq]; exact e), fun e => by rw [e]⟩
theorem put_old {s : ByteArray} {d : List ByteArray} (hd : Rising d) (h : s ∈ d) : dict_put s d = d := by
  have hr := DictSort.put_rises s.data.toList (d.map (·.data.toList)) (by
    rw [List.pairwise_map]
    exact hd.imp fun h => by rw [ByteArray.toList_eq, ByteArray.toList_eq] at h; exact h)
  refine rising_ext ?_ hd fun x => ?_
  · rw [← DictSort.put_map, List.pairwise_map] at hr
    exact hr.imp fun h => by rw [ByteArray.toList_eq, ByteArray.toList_eq]; exact h
  · rw [mem_put_iff]
    exact ⟨fun h' => h'.elim (fun e => e ▸ h) id, .inr⟩
theorem put_new {s : ByteArray} {d : List ByteArray} (h : s ∉ d) : (dict_put s d).length = d.length + 1 := by
  induction d with
  | nil => rfl
  | cons x r ih =>
    rw [dict_put]
    split
    · rw [List.length_cons, ih (fun h' => h (List.mem_cons_of_mem _ h')), List.length_cons]
    · split
      · rename_i _ e
        exact absurd (List.mem_cons.2 (.inl (ba_ext e).symm)) h
      · rfl
theorem set_snoc (l : List ByteArray) (s : ByteArray) : dict_set (l ++ [s]) = dict_put s (dict_set l) := by
  rw [dict_set, List.foldl_append]
  rfl
/-- How many unlike texts there are. -/
theorem seen_step {l : List ByteArray} {i : Nat} (h : i < l.length) : (dict_set (l.take (i + 1))).length = (dict_set (l.take i)).length + if gt l i ∈ l.take i then 0 else 1 := by
  rw [List.take_succ_eq_append_getElem h, ← gt_get l i h, set_snoc]
  by_cases hm : gt l i ∈ l.take i
  · rw [if_pos hm, put_old (set_rises _) (mem_set.2 hm)]
    rfl
  · rw [if_neg hm, put_new (fun h' => hm (mem_set.1 h'))]
theorem put_ge (s : ByteArray) (d : List ByteArray) : d.length ≤ (dict_put s d).length := by
  induction d with
  | nil => exact Nat.zero_le _
  | cons x r ih =>
    rw [dict_put]
    split
    · simp only [List.length_cons]
      omega
    · split <;> simp only [List.length_cons] <;> omega
theorem fold_ge (l : List ByteArray) : ∀ d : List ByteArray, d.length ≤ (l.foldl (fun d s => dict_put s d) d).length := by
  induction l with
  | nil => exact fun d => Nat.le_refl _
  | cons s r ih => exact fun d => Nat.le_trans (put_ge s d) (ih _)
section
variable {A L : List ByteArray} (s : ByteArray) (hs : s.size ≤ 9223372036854775807) (hL : L.length ≤ 80) (hA : ∀ x ∈ A, x ∈ L)
include hs hL hA
theorem end_j3 : Ev (fun k => columbariumlaw9_BloomMore.j3 k s false ((fbits A : Nat) : Int) (ints (fbytes A)) ((fbits L : Nat) : Int) (ints (fbytes L))) true := by
  by_cases h : fbits A = fbits L
  · refine Ev.step (fun k => by rw [columbariumlaw9_BloomMore.j3, if_neg Bool.false_ne_true, if_pos (by rw [h])]) (Ev.bind (may_ev A s hs) ?_)
    cases hm : (spotsN s (fbits A)).all (hasb (fbytes A)) with
    | false => exact Ev.congr (fun k => by rw [if_neg Bool.false_ne_true]) (Ev.bind known_ev (Ev.now _))
    | true =>
      have hm2 : (spotsN s (fbits L)).all (hasb (fbytes L)) = true := by
        rw [List.all_eq_true] at hm ⊢
        intro p hp
        have h1 := hm p (by rw [h]; exact hp)
        rw [hasb_fbytes, decide_eq_true_eq] at h1 ⊢
        obtain ⟨x, hx, h2⟩ := h1
        exact ⟨x, hA x hx, by rw [← h]; exact h2⟩
      have hm3 := may_ev L s hs
      rw [hm2] at hm3
      exact Ev.congr (fun k => by rw [if_pos rfl]) (Ev.bind hm3 (Ev.congr (fun k => by rw [if_pos rfl]) (Ev.bind known_ev (Ev.now _))))
  · exact Ev.step (fun k => by rw [columbariumlaw9_BloomMore.j3, if_neg Bool.false_ne_true, if_neg (by omega)]) (Ev.bind known_ev (Ev.now _))
theorem seen_l1 (i n : Nat) (hi : i < L.length) (r : Bool)
    (hr : Ev (fun k => columbariumlaw9_BloomMore.l0 k s L (((n + if gt L i ∈ L.take i then 0 else 1) : Nat) : Int) ((i + 1 : Nat) : Int) ((fbits A : Nat) : Int) (ints (fbytes A)) ((fbits L : Nat) : Int) (ints (fbytes L))) r) (hn : n ≤ 80) (m : Nat) : ∀ j (b : Bool), i - j = m → j ≤ i → (b = true ↔ gt L i ∈ L.take j) →
    Ev (fun k => columbariumlaw9_BloomMore.l1 k s L (n : Int) (i : Int) b (j : Int) ((fbits A : Nat) : Int) (ints (fbytes A)) ((fbits L : Nat) : Int) (ints (fbytes L))) r := by
  induction m with
  | zero =>
    intro j b hm hj hb
    obtain rfl : j = i := by omega
    cases b with
    | true =>
      rw [if_pos (hb.1 rfl)] at hr
      exact Ev.step (fun k => by rw [columbariumlaw9_BloomMore.l1, if_neg (by omega), if_pos rfl, succ64 (by omega)]; rfl) hr
    | false =>
      rw [if_neg (fun h => absurd (hb.2 h) Bool.false_ne_true)] at hr
      exact Ev.step (fun k => by rw [columbariumlaw9_BloomMore.l1, if_neg (by omega), if_neg Bool.false_ne_true, succ64 (by omega), succ64 (by omega)]) hr
  | succ m ih =>
    intro j b hm hj hb
    have h1 : j < L.length := by omega
    have et : L.take (j + 1) = L.take j ++ [gt L j] := by rw [List.take_succ_eq_append_getElem h1, gt_get L j h1]
    cases b with
    | true =>
      refine Ev.step (fun k => by rw [columbariumlaw9_BloomMore.l1, if_pos (by omega), if_pos rfl, succ64 (by omega)]) (ih (j + 1) true (by omega) (by omega) ?_)
      rw [et, List.mem_append]
      exact ⟨fun _ => .inl (hb.1 rfl), fun _ => rfl⟩
    | false =>
      refine Ev.step (fun k => by rw [columbariumlaw9_BloomMore.l1, if_pos (by omega), if_neg Bool.false_ne_true, if_pos (by omega), if_pos (by omega), if_pos (by omega), if_pos (by omega), rd_gt, rd_gt, succ64 (by omega)]) (ih (j + 1) ((gt L j).toList == (gt L i).toList) (by omega) (by omega) ?_)
      rw [et, List.mem_append, beq_iff_eq, List.mem_singleton]
      exact ⟨fun h => .inr (ba_ext h).symm, fun h => h.elim (fun h => absurd (hb.2 h) Bool.false_ne_true) fun h => by rw [h]⟩
theorem seen_l0 (m : Nat) : ∀ i, L.length - i = m → i ≤ L.length →
    Ev (fun k => columbariumlaw9_BloomMore.l0 k s L (((dict_set (L.take i)).length : Nat) : Int) (i : Int) ((fbits A : Nat) : Int) (ints (fbytes A)) ((fbits L : Nat) : Int) (ints (fbytes L))) true := by
  induction m with
  | zero =>
    intro i hm hi
    rw [List.take_of_length_le (by omega)]
    have hd := set_length L
    have h1 : 8 * (dict_set L).length ≤ fbits L := bitsOf_enough (by omega)
    have h2 : 64 < fbits L → fbits L / 2 < 8 * (dict_set L).length := bitsOf_few _
    have h3 : 64 ≤ fbits L ∧ fbits L ≤ 1024 ∧ fbits L % 8 = 0 := bitsOf_range _
    have hj := end_j3 s hs hL hA
    generalize (dict_set L).length = n at *
    have e1 : wrap64 (8 * (n : Int)) = ((8 * n : Nat) : Int) := by rw [w64 (by omega) (by omega)]; omega
    have e2 : wrap64 (Int.tdiv ((fbits L : Nat) : Int) 2) = ((fbits L / 2 : Nat) : Int) := by
      rw [show (2 : Int) = ((2 : Nat) : Int) from rfl, tdiv_nat, w64 (by omega) (by omega)]
    refine Ev.step (fun k => ?_) hj
    rw [columbariumlaw9_BloomMore.l0, if_neg (by omega), e1, if_neg (by omega), e2]
    by_cases h : ((fbits L : Nat) : Int) > 64
    · rw [if_pos h, decide_eq_false (by have := h2 (by omega); omega)]
    · rw [if_neg h]
  | succ m ih =>
    intro i hm hi
    have h1 : i < L.length := by omega
    have hn := set_length (L.take i)
    rw [List.length_take] at hn
    have hi' := ih (i + 1) (by omega) (by omega)
    rw [seen_step h1] at hi'
    refine Ev.step (fun k => by rw [columbariumlaw9_BloomMore.l0, if_pos (by omega)]; rfl) (seen_l1 s hs hL hA i _ h1 true hi' (by omega) _ 0 false rfl (Nat.zero_le _) ⟨fun h => absurd h Bool.false_ne_true, fun h => absurd h (by simp)⟩)
end
theorem BloomMore : columbariumlaw9_BloomMore.Pure := by
  intro l0 l1 a2 _ hs0 _ hs1 hs
  refine Ev.rounds ?_
  have hA : (l0.take 40).length ≤ 40 := by rw [List.length_take]; omega
  have hB : (l1.take 40).length ≤ 40 := by rw [List.length_take]; omega
  have hsA : ∀ s ∈ l0.take 40, s.size ≤ 9223372036854775807 := fun s h => hs0 s (List.mem_of_mem_take h)
  have hsB : ∀ s ∈ l1.take 40, s.size ≤ 9223372036854775807 := fun s h => hs1 s (List.mem_of_mem_take h)
  have f0 := few_f l0
  have f1 := few_f l1
  generalize l0.take 40 = A at hA hsA f0
  generalize l1.take 40 = B at hB hsB f1
  have hL : (A ++ B).length ≤ 80 := by rw [List.length_append]; omega
  have hsL : ∀ s ∈ A ++ B, s.size ≤ 9223372036854775807 := fun s h => (List.mem_append.1 h).elim (hsA s) (hsB s)
  have dA := set_length A
  have dL := set_length (A ++ B)
  have bA := build_ev A (by omega) (by omega) hsA
  have bL := build_ev (A ++ B) (by omega) (by omega) hsL
  have hle : fbits A ≤ fbits (A ++ B) := by
    refine bitsOf_mono ?_
    have e : dict_set (A ++ B) = B.foldl (fun d s => dict_put s d) (dict_set A) := by rw [dict_set, List.foldl_append]; rfl
    rw [e]
    exact fold_ge B _
  have n1 : ([] : List ByteArray).length + A.length < 8796093022208 := by simp only [List.length_nil]; omega
  refine Ev.congr (fun k => by rw [columbariumlaw9_BloomMore.f, f0, Option.bind_some, Option.bind_some, if_pos n1, Option.bind_some, f1, Option.bind_some, List.nil_append, if_pos (by omega), Option.bind_some]) (Ev.bind bA (Ev.bind bL ?_))
  refine Ev.congr (f := fun k => columbariumlaw9_BloomMore.j0 k a2 (A ++ B) false ((fbits A : Nat) : Int) (ints (fbytes A)) ((fbits (A ++ B) : Nat) : Int) (ints (fbytes (A ++ B)))) (fun k => ?_) ?_
  · rw [if_neg (by omega), right_f, Option.bind_some, if_pos rfl, right_f, Option.bind_some]
    rfl
  · exact Ev.step (fun k => by rw [columbariumlaw9_BloomMore.j0, if_neg Bool.false_ne_true]; rfl) (seen_l0 a2 (Nat.le_trans hs (by decide)) hL (fun x hx => List.mem_append_left _ hx) _ 0 rfl (Nat.zero_le _))

end Go.Proofs.Ytifcocmmapgebaa.Pure
