/- A part's truth hangs on the columns alone that it names, and the time; In is an Any of Is; Less and Equal part Ints; Prefix of a text is true of it. -/
import Derived.Test.YtalpcnomfebdiaaTPredPartsPredRules
import Derived.Test.YtalpcnomfebdiaaTTextSetPredRules
namespace Go.Proofs.Ytalpcnomfebdiaa.QPredRules
open Go.RowKit Go.Proofs.YtalpcnomfebdiaaW.PrintWords Go.Proofs.YtalpcnomfebdiaaW.PrintLast Go.Proofs.YtalpcnomfebdiaaW.PrintMore Go.Proofs.Ytalpcnomfebdiaa.Base
set_option linter.unusedVariables false
set_option linter.unusedSimpArgs false

theorem known_ev : Ev (fun k => columbariumlaw13_known.f k) true := Ev.of columbariumlaw13_known.mono (k := 60) (by decide +kernel)
/-! ### the columns that are named -/
mutual
def clS : S25 → List ByteArray
  | ⟨_, a1, _, _, _, _, l⟩ => (if a1.toList = ([] : List UInt8) then [] else [a1]) ++ clL l
def clL : List S25 → List ByteArray
  | [] => []
  | x :: r => clS x ++ clL r
end
theorem clS_eq (x : S25) : clS x = (if x.f1.toList = ([] : List UInt8) then [] else [x.f1]) ++ clL x.f6 := by cases x; rw [clS]
theorem clL_len_of (l : List S25) (h : ∀ y ∈ l, (clS y).length ≤ cnt y) : (clL l).length ≤ cntL l := by
  induction l with
  | nil => simp [clL]
  | cons x r ih =>
    have h1 := h x List.mem_cons_self
    have h2 := ih (fun y hy => h y (List.mem_cons_of_mem _ hy))
    rw [clL, cntL, List.length_append]; omega
theorem clS_len : ∀ x : S25, (clS x).length ≤ cnt x := by
  refine tree_ind fun x ih => ?_
  have h := clL_len_of x.f6 ih
  rw [clS_eq, cnt_eq, List.length_append]
  split <;> simp <;> omega
theorem clL_len (l : List S25) : (clL l).length ≤ cntL l := clL_len_of l (fun y _ => clS_len y)
theorem cols_l {K : List S25} (hK : cntL K < 1000000) (ih : ∀ y ∈ K, ∀ l : List ByteArray, l.length + cnt y < 4000000 → Ev (fun k => pred_cols.g k y.f1 y.f6 l) (l ++ clS y)) (m : Nat) :
    ∀ (i : Nat) (l : List ByteArray), K.length - i = m → i ≤ K.length → l.length + cntL (K.drop i) < 4000000 → Ev (fun k => pred_cols.l0 k K (i : Int) l) (l ++ clL (K.drop i)) := by
  have hlen := cntL_len K
  induction m with
  | zero =>
    intro i l hm hi hl
    rw [List.drop_eq_nil_of_le (by omega), clL, List.append_nil]
    exact Ev.step (f := fun _ => some l) (fun k => by rw [pred_cols.l0, if_neg (by omega)]) (Ev.now _)
  | succ m ihm =>
    intro i l hm hi hl
    have h : i < K.length := by omega
    rw [drop_at h, cntL] at hl
    rw [drop_at h, clL, ← List.append_assoc]
    have h1 := clS_len K[i]
    refine Ev.step (fun k => by rw [pred_cols.l0, if_pos (by omega), if_pos (by omega), rd25 K i h]) (Ev.bind (ih _ (List.getElem_mem h) l (by omega)) (Ev.congr (fun k => by rw [succ64 (by omega)]) (ihm (i + 1) _ (by omega) (by omega) (by rw [List.length_append]; omega))))
theorem cols_ev : ∀ x : S25, cnt x < 1000000 → ∀ l : List ByteArray, l.length + cnt x < 4000000 → Ev (fun k => pred_cols.g k x.f1 x.f6 l) (l ++ clS x) := by
  refine tree_ind fun x ih hc l hl => ?_
  have hc' := cnt_eq x
  have hgo : ∀ l' : List ByteArray, l'.length ≤ l.length + 1 → Ev (fun k => pred_cols.l0 k x.f6 0 l') (l' ++ clL x.f6) := by
    intro l' hl'
    have h := cols_l (K := x.f6) (by omega) (fun y hy l2 hl2 => ih y hy (cnt_kid hy hc) l2 hl2) _ 0 l' rfl (Nat.zero_le _) (by rw [List.drop_zero]; omega)
    rw [List.drop_zero] at h
    exact h
  rw [clS_eq]
  by_cases he : x.f1.toList = ([] : List UInt8)
  · rw [if_pos he, List.nil_append]
    exact Ev.step (fun k => by rw [pred_cols.g, if_pos he]) (hgo l (by omega))
  · rw [if_neg he, ← List.append_assoc]
    exact Ev.step (fun k => by rw [pred_cols.g, if_neg he, if_pos (by omega)]) (hgo (l ++ [x.f1]) (by simp))
theorem sortL_length (l : List ByteArray) : (sortL l).length = l.length := by rw [sortL, List.length_map, List.length_mergeSort, List.length_map]
theorem Cols_ev (x : S25) (hc : cnt x < 1000000) : Ev (fun k => pred_Cols.f k x.f0 x.f1 x.f2 x.f3 x.f4 x.f5 x.f6) (dict_set (clS x)) := by
  have h := cols_ev x hc [] (by simp; omega)
  rw [List.nil_append] at h
  have hl := clS_len x
  refine Ev.congr (fun k => by rw [pred_Cols.f, pred_cols.f]) (Ev.bind h ?_)
  refine Ev.congr (f := fun _ => some (dict_set (clS x))) (fun k => ?_) (Ev.now _)
  rw [slices_Sort_string_string.f, if_pos (by omega), Option.bind_some, slices_Compact_string_string.f, if_pos (by rw [sortL_length]; omega), Option.bind_some, compact_sortL]

/-! ### a row's cells -/
def look (s : ByteArray) : List S52 → ByteArray × Int × Int × ByteArray
  | [] => (⟨#[]⟩, 0, 0, ⟨#[]⟩)
  | c :: r => if c.f0.toList = s.toList then (c.f0, c.f1, c.f2, c.f3) else look s r
theorem rd52 (l : List S52) (i : Nat) (h : i < l.length) : rd_T52 l (i : Int) = l[i] := by
  simp [rd_T52, List.getD_eq_getElem?_getD, List.getElem?_eq_getElem h]
theorem look_l (s : ByteArray) (l : List S52) (hl : l.length < 1000000) (m : Nat) : ∀ i : Nat, l.length - i = m → i ≤ l.length → Ev (fun k => row_Cell.l0 k s l (l.length : Int) (i : Int)) (look s (l.drop i)) := by
  induction m with
  | zero =>
    intro i hm hi
    rw [List.drop_eq_nil_of_le (by omega), look]
    exact Ev.step (f := fun _ => some _) (fun k => by rw [row_Cell.l0, if_neg (by omega)]) (Ev.now _)
  | succ m ih =>
    intro i hm hi
    have h : i < l.length := by omega
    rw [List.drop_eq_getElem_cons h, look]
    by_cases he : l[i].f0.toList = s.toList
    · rw [if_pos he]
      exact Ev.step (f := fun _ => some _) (fun k => by rw [row_Cell.l0, if_pos (by omega), if_pos (by omega), if_pos (by omega), rd52 l i h, if_pos he]) (Ev.now _)
    · rw [if_neg he]
      exact Ev.step (fun k => by rw [row_Cell.l0, if_pos (by omega), if_pos (by omega), if_pos (by omega), rd52 l i h, if_neg he, succ64 (by omega)]) (ih (i + 1) (by omega) (by omega))
theorem look_ev (a b : Int) (s : ByteArray) (l : List S52) (hl : l.length < 1000000) : Ev (fun k => row_Cell.f k a b l s) (look s l) := by
  have h := look_l s l hl _ 0 rfl (Nat.zero_le _)
  rw [List.drop_zero] at h
  exact Ev.congr (fun k => by rw [row_Cell.f]; rfl) h
/-- A part without kids, at a row: what its column's cell says. -/
theorem leaf_ev {a0 a2 a3 b0 b1 : Int} {a1 a4 : ByteArray} {s : List ByteArray} {l : List S25} {L : List S52} (h1 : a0 ≠ 1) (h2 : a0 ≠ 2) (h3 : a0 ≠ 3) (h4 : a0 ≠ 10) (hL : L.length < 1000000) {b : Bool}
    (h : Ev (fun k => pred_Cell.f k a0 a1 a2 a3 a4 s l (look a1 L).1 (look a1 L).2.1 (look a1 L).2.2.1 (look a1 L).2.2.2) b) : Ev (fun k => pred_Eval.f k a0 a1 a2 a3 a4 s l b0 b1 L) b :=
  Ev.step (fun k => by rw [pred_Eval.f, if_neg h1, if_neg h2, if_neg h3, if_neg h4]) (Ev.bind (look_ev b0 b1 a1 L hL) h)
theorem lf_same {x : S25} (hg : Slim x) (h1 : x.f0 ≠ 1) (h2 : x.f0 ≠ 2) (h3 : x.f0 ≠ 3) {t u : Int × Int × List S52} (ht : t.2.2.length < 1000000) (hu : u.2.2.length < 1000000) (ht1 : t.1 = u.1) (hl : x.f0 ≠ 10 → look x.f1 t.2.2 = look x.f1 u.2.2) : lf t x = lf u x := by
  by_cases h4 : x.f0 = 10
  · have e : ∀ k, evF k x t = evF k x u := by
      intro k
      cases k with
      | zero => rw [evF, evF, pred_Eval.f, pred_Eval.f]
      | succ k => rw [evF, evF, pred_Eval.f, pred_Eval.f, if_neg h1, if_neg h2, if_neg h3, if_pos h4, if_neg h1, if_neg h2, if_neg h3, if_pos h4, ht1]
    unfold lf
    congr 1
    exact propext ⟨fun ⟨k, hk⟩ => ⟨k, by rw [← e]; exact hk⟩, fun ⟨k, hk⟩ => ⟨k, by rw [e]; exact hk⟩⟩
  · obtain ⟨b, hb⟩ := cell_ev x hg (look x.f1 t.2.2).1 (look x.f1 t.2.2).2.1 (look x.f1 t.2.2).2.2.1 (look x.f1 t.2.2).2.2.2
    have e1 : lf t x = b := lf_of (leaf_ev (b0 := t.1) (b1 := t.2.1) h1 h2 h3 h4 ht hb)
    rw [hl h4] at hb
    have e2 : lf u x = b := lf_of (leaf_ev (b0 := u.1) (b1 := u.2.1) h1 h2 h3 h4 hu hb)
    rw [e1, e2]
theorem clL_mem {l : List S25} {y : S25} {c : ByteArray} (hy : y ∈ l) (hc : c ∈ clS y) : c ∈ clL l := by
  induction l with
  | nil => exact absurd hy List.not_mem_nil
  | cons x r ih =>
    rw [clL]
    rcases List.mem_cons.1 hy with rfl | hy
    · exact List.mem_append_left _ hc
    · exact List.mem_append_right _ (ih hy)
theorem ev_same {t u : Int × Int × List S52} (ht : t.2.2.length < 1000000) (hu : u.2.2.length < 1000000) (ht1 : t.1 = u.1) : ∀ x : S25, RS x → Slim x → (∀ c ∈ clS x, look c t.2.2 = look c u.2.2) → ev t x = ev u x := by
  refine tree_ind fun x ih hr hg hl => ?_
  obtain ⟨h0, h3, hk, hleaf⟩ := hr
  have hkid : ∀ y ∈ x.f6, ev t y = ev u y := fun y hy => ih y hy (hk y hy) (hg.kids y hy) (fun c hc => hl c (by rw [clS_eq]; exact List.mem_append_right _ (clL_mem hy hc)))
  have hA : evA t x.f6 = evA u x.f6 := by
    have : ∀ l : List S25, (∀ y ∈ l, ev t y = ev u y) → evA t l = evA u l := by
      intro l
      induction l with
      | nil => intro _; rw [evA, evA]
      | cons y r ihr => intro h; rw [evA, evA, h y List.mem_cons_self, ihr (fun z hz => h z (List.mem_cons_of_mem _ hz))]
    exact this _ hkid
  have hO : evO t x.f6 = evO u x.f6 := by
    have : ∀ l : List S25, (∀ y ∈ l, ev t y = ev u y) → evO t l = evO u l := by
      intro l
      induction l with
      | nil => intro _; rw [evO, evO]
      | cons y r ihr => intro h; rw [evO, evO, h y List.mem_cons_self, ihr (fun z hz => h z (List.mem_cons_of_mem _ hz))]
    exact this _ hkid
  have hN : evN t x.f6 = evN u x.f6 := by
    match hx : x.f6 with
    | [] => rw [evN, evN]
    | y :: r => rw [evN, evN, hkid y (by rw [hx]; exact List.mem_cons_self)]
  rw [ev_eq, ev_eq]
  by_cases c1 : x.f0 = 1
  · rw [if_pos c1, if_pos c1, hA]
  by_cases c2 : x.f0 = 2
  · rw [if_neg c1, if_pos c2, if_neg c1, if_pos c2, hO]
  by_cases c3 : x.f0 = 3
  · rw [if_neg c1, if_neg c2, if_pos c3, if_neg c1, if_neg c2, if_pos c3, hN]
  rw [if_neg c1, if_neg c2, if_neg c3, if_neg c1, if_neg c2, if_neg c3]
  refine lf_same hg c1 c2 c3 ht hu ht1 (fun c4 => hl _ ?_)
  rw [clS_eq, if_neg (hleaf c1 c2 c3 c4)]
  exact List.mem_append_left _ (List.mem_singleton.2 rfl)

/-! ### the cells of the columns that are named -/
def selOne (c : S52) : List ByteArray → List S52
  | [] => []
  | s :: r => (if s.toList = c.f0.toList then [c] else []) ++ selOne c r
def sel (C : List ByteArray) : List S52 → List S52
  | [] => []
  | c :: r => selOne c C ++ sel C r
theorem selOne_len (c : S52) (C : List ByteArray) : (selOne c C).length ≤ C.length := by
  induction C with
  | nil => simp [selOne]
  | cons s r ih => rw [selOne, List.length_append]; split <;> simp <;> omega
theorem sel_len (C : List ByteArray) (T : List S52) : (sel C T).length ≤ T.length * C.length := by
  induction T with
  | nil => simp [sel]
  | cons c r ih => rw [sel, List.length_append, List.length_cons, Nat.succ_mul]; have := selOne_len c C; omega
theorem look_skip {s : ByteArray} {c : S52} (h : ¬ c.f0.toList = s.toList) (C : List ByteArray) (r : List S52) : look s (selOne c C ++ r) = look s r := by
  induction C with
  | nil => rfl
  | cons q C ih =>
    rw [selOne]
    split
    · rw [List.append_assoc, List.singleton_append, look, if_neg h, ih]
    · rw [List.nil_append, ih]
theorem look_hit {s : ByteArray} {c : S52} (h : c.f0.toList = s.toList) {C : List ByteArray} (hs : s ∈ C) (r : List S52) : look s (selOne c C ++ r) = (c.f0, c.f1, c.f2, c.f3) := by
  induction C with
  | nil => exact absurd hs List.not_mem_nil
  | cons q C ih =>
    rw [selOne]
    by_cases hq : q.toList = c.f0.toList
    · rw [if_pos hq, List.append_assoc, List.singleton_append, look, if_pos h]
    · rw [if_neg hq, List.nil_append]
      rcases List.mem_cons.1 hs with rfl | hs
      · exact absurd h.symm hq
      · exact ih hs
theorem look_sel {s : ByteArray} {C : List ByteArray} (hs : s ∈ C) (T : List S52) : look s T = look s (sel C T) := by
  induction T with
  | nil => rfl
  | cons c r ih =>
    rw [sel, look]
    by_cases h : c.f0.toList = s.toList
    · rw [if_pos h, look_hit h hs]
    · rw [if_neg h, look_skip h, ih]
section
variable {p : S25} {C : List ByteArray} {T : List S52} {n t0 t1 u1 : Int} {s : ByteArray}
theorem rules_l1 (hC : C.length < 1000000) (hT : T.length ≤ 10) (i : Nat) (hi : i < T.length) {r : Bool} (m : Nat) : ∀ (j : Nat) (U : List S52), C.length - j = m → j ≤ C.length → U.length + (C.length - j) < 20000000 →
    Ev (fun k => columbariumlaw13_PredRules.l0 k n s C ((i + 1 : Nat) : Int) p.f0 p.f1 p.f2 p.f3 p.f4 p.f5 p.f6 t0 t1 T t0 u1 (U ++ selOne T[i] (C.drop j))) r → Ev (fun k => columbariumlaw13_PredRules.l1 k n s C (i : Int) (j : Int) p.f0 p.f1 p.f2 p.f3 p.f4 p.f5 p.f6 t0 t1 T t0 u1 U) r := by
  induction m with
  | zero =>
    intro j U hm hj hU h
    rw [List.drop_eq_nil_of_le (by omega), selOne, List.append_nil] at h
    exact Ev.step (fun k => by rw [columbariumlaw13_PredRules.l1, if_neg (by omega), succ64 (by omega)]) h
  | succ m ih =>
    intro j U hm hj hU h
    have hj' : j < C.length := by omega
    rw [List.drop_eq_getElem_cons hj', selOne] at h
    have e : rdOf ByteArray.empty C (j : Int) = C[j] := by rw [rd_gt, gt_get C j hj']
    by_cases he : C[j].toList = T[i].f0.toList
    · rw [if_pos he, ← List.append_assoc] at h
      exact Ev.step (fun k => by rw [columbariumlaw13_PredRules.l1, if_pos (by omega), if_pos (by omega), if_pos (by omega), if_pos (by omega), e, rd52 T i hi, if_pos he, if_pos (by omega), succ64 (by omega)]) (ih (j + 1) _ (by omega) (by omega) (by rw [List.length_append, List.length_singleton]; omega) h)
    · rw [if_neg he, List.nil_append] at h
      exact Ev.step (fun k => by rw [columbariumlaw13_PredRules.l1, if_pos (by omega), if_pos (by omega), if_pos (by omega), if_pos (by omega), e, rd52 T i hi, if_neg he, succ64 (by omega)]) (ih (j + 1) _ (by omega) (by omega) (by omega) h)
theorem rules_l0 (hp : Slim p) (hc : cnt p < 3000) (hr : RS p) (hC : C.length < 3000) (hcl : ∀ c ∈ clS p, c ∈ C) (hT : T.length ≤ 10) {U : List S52} (hU : U = sel C T) (hj : Ev (fun k => columbariumlaw13_PredRules.j2 k n s) true) (m : Nat) :
    ∀ (i : Nat) (V : List S52), T.length - i = m → i ≤ T.length → V ++ sel C (T.drop i) = U → Ev (fun k => columbariumlaw13_PredRules.l0 k n s C (i : Int) p.f0 p.f1 p.f2 p.f3 p.f4 p.f5 p.f6 t0 t1 T t0 u1 V) true := by
  have hUl : U.length < 30001 := by
    have h1 := sel_len C T
    have h2 : T.length * C.length ≤ 10 * C.length := Nat.mul_le_mul_right _ hT
    rw [hU]; omega
  induction m with
  | zero =>
    intro i V hm hi hV
    rw [List.drop_eq_nil_of_le (by omega), sel, List.append_nil] at hV
    subst hV
    have h1 : Ev (fun k => pred_Eval.f k p.f0 p.f1 p.f2 p.f3 p.f4 p.f5 p.f6 t0 t1 T) (ev (t0, t1, T) p) := eval_big (t0, t1, T) (by simp only; omega) p hp (by omega)
    have h2 : Ev (fun k => pred_Eval.f k p.f0 p.f1 p.f2 p.f3 p.f4 p.f5 p.f6 t0 u1 V) (ev (t0, u1, V) p) := eval_big (t0, u1, V) (by simp only; omega) p hp (by omega)
    have e : ev (t0, t1, T) p = ev (t0, u1, V) p := ev_same (t := (t0, t1, T)) (u := (t0, u1, V)) (by simp only; omega) (by simp only; omega) rfl p hr hp (fun c hc' => by simp only; rw [hU]; exact look_sel (hcl c hc') T)
    refine Ev.step (fun k => by rw [columbariumlaw13_PredRules.l0, if_neg (by omega)]) (Ev.bind h1 (Ev.bind h2 ?_))
    rw [e, bne_self_eq_false]
    exact Ev.congr (fun k => by rw [if_neg Bool.false_ne_true]) hj
  | succ m ih =>
    intro i V hm hi hV
    have h : i < T.length := by omega
    rw [List.drop_eq_getElem_cons h, sel, ← List.append_assoc] at hV
    have hl := congrArg List.length hV
    simp only [List.length_append] at hl
    have hso := selOne_len T[i] C
    refine Ev.step (fun k => by rw [columbariumlaw13_PredRules.l0, if_pos (by omega)]) ?_
    exact rules_l1 (by omega) hT i h _ 0 V rfl (Nat.zero_le _) (by omega) (by rw [List.drop_zero]; exact ih (i + 1) _ (by omega) (by omega) hV)
end

/-! ### single parts -/
theorem within_f {a : Int} (n : Nat) (hn : n < 1000) : ∃ d : Nat, d ≤ n ∧ columbariumbook_Within.f a 0 (n : Int) = some (d : Int) := by
  have e1 : wrap64 (wrap64 ((n : Int) - 0) + 1) = ((n + 1 : Nat) : Int) := by
    rw [w64 (x := (n : Int) - 0) (by omega) (by omega), w64 (by omega) (by omega)]
    omega
  have hp : (0 : Int) < ((n + 1 : Nat) : Int) := by omega
  have b1 : -((n + 1 : Nat) : Int) < Int.tmod a ((n + 1 : Nat) : Int) := Int.lt_tmod_of_pos a hp
  have b2 : Int.tmod a ((n + 1 : Nat) : Int) < ((n + 1 : Nat) : Int) := Int.tmod_lt_of_pos a hp
  unfold columbariumbook_Within.f
  rw [e1, if_neg (by omega)]
  generalize Int.tmod a ((n + 1 : Nat) : Int) = m at *
  by_cases h0 : m < 0
  · rw [if_pos h0]
    refine ⟨(m + n + 1).toNat, by omega, ?_⟩
    rw [w64 (x := m + n) (by omega) (by omega), w64 (x := m + n - 0) (by omega) (by omega), w64 (x := m + n - 0 + 1) (by omega) (by omega), w64 (by omega) (by omega)]
    congr 1
    omega
  · rw [if_neg h0]
    refine ⟨m.toNat, by omega, ?_⟩
    rw [w64 (by omega) (by omega)]
    congr 1
    omega
theorem ne_ns : ¬ (⟨#[110]⟩ : ByteArray).toList = (⟨#[115]⟩ : ByteArray).toList := by decide +kernel
theorem ne_nm : ¬ (⟨#[110]⟩ : ByteArray).toList = (⟨#[109]⟩ : ByteArray).toList := by decide +kernel
theorem ne_sm : ¬ (⟨#[115]⟩ : ByteArray).toList = (⟨#[109]⟩ : ByteArray).toList := by decide +kernel
theorem rules_j3 (n : Int) (s : ByteArray) (hs : s.size ≤ 20) : Ev (fun k => columbariumlaw13_PredRules.j3 k n s) true := by
  obtain ⟨d, hd, ew⟩ := within_f (a := Go.bits .and .i64 n 7) s.size (by omega)
  generalize hX : ([⟨(⟨#[110]⟩ : ByteArray), 1, n, (⟨#[]⟩ : ByteArray)⟩, ⟨(⟨#[115]⟩ : ByteArray), 2, 0, s⟩] : List S52) = X
  have hl : X.length < 1000000 := by rw [← hX]; exact (by decide : 2 < 1000000)
  have ln : look (⟨#[110]⟩ : ByteArray) X = ((⟨#[110]⟩ : ByteArray), 1, n, (⟨#[]⟩ : ByteArray)) := by rw [← hX, look, if_pos rfl]
  have ls : look (⟨#[115]⟩ : ByteArray) X = ((⟨#[115]⟩ : ByteArray), 2, 0, s) := by rw [← hX, look, if_neg ne_ns, look, if_pos rfl]
  have lm : look (⟨#[109]⟩ : ByteArray) X = ((⟨#[]⟩ : ByteArray), 0, 0, (⟨#[]⟩ : ByteArray)) := by rw [← hX, look, if_neg ne_nm, look, if_neg ne_sm, look]
  have e1 : Ev (fun k => pred_Eval.f k 4 (⟨#[110]⟩ : ByteArray) 7 0 (⟨#[]⟩ : ByteArray) ([] : List ByteArray) ([] : List S25) 5 0 X) (decide (n < 7)) := leaf_ev (by decide) (by decide) (by decide) (by decide) hl (by rw [ln]; exact Ev.congr (f := fun _ => some _) (fun k => by rw [pred_Cell.f, if_pos rfl, if_pos rfl]) (Ev.now _))
  have e2 : Ev (fun k => pred_Eval.f k 5 (⟨#[110]⟩ : ByteArray) n 0 (⟨#[]⟩ : ByteArray) ([] : List ByteArray) ([] : List S25) 5 0 X) true := leaf_ev (by decide) (by decide) (by decide) (by decide) hl (by rw [ln]; exact Ev.congr (f := fun _ => some true) (fun k => by rw [pred_Cell.f, if_neg (by decide), if_pos rfl, if_pos rfl, beq_self_eq_true]) (Ev.now _))
  have hidx : Ev (fun k => slices_Index_string_string.l0 k [s] s 1 0) (0 : Int) := Ev.step (f := fun _ => some (0 : Int)) (fun k => by rw [slices_Index_string_string.l0, if_pos (by decide), if_pos (by decide), if_pos (by simp), if_pos (show s.toList = (rdOf ByteArray.empty [s] 0).toList from rfl)]) (Ev.now _)
  have e3 : Ev (fun k => pred_Eval.f k 7 (⟨#[115]⟩ : ByteArray) 0 0 (⟨#[]⟩ : ByteArray) [s] ([] : List S25) 5 0 X) true := by
    refine leaf_ev (by decide) (by decide) (by decide) (by decide) hl ?_
    rw [ls]
    have hct : Ev (fun k => slices_Contains_string_string.f k [s] s) true := Ev.congr (fun k => by rw [slices_Contains_string_string.f, slices_Index_string_string.f]; rfl) (Ev.bind hidx (Ev.now _))
    exact Ev.congr (fun k => by rw [pred_Cell.f, if_neg (by decide), if_neg (by decide), if_neg (by decide), if_pos rfl, if_pos rfl]) (Ev.bind hct (Ev.now _))
  have e4 : Ev (fun k => pred_Eval.f k 8 (⟨#[115]⟩ : ByteArray) 0 0 (s.extract 0 d) ([] : List ByteArray) ([] : List S25) 5 0 X) true := by
    refine leaf_ev (by decide) (by decide) (by decide) (by decide) hl ?_
    rw [ls]
    dsimp only
    have hsz : (s.extract 0 d).size = d := by rw [ByteArray.size_extract]; omega
    refine Ev.congr (f := fun _ => some true) (fun k => ?_) (Ev.now _)
    rw [pred_Cell.f, if_neg (by decide), if_neg (by decide), if_neg (by decide), if_neg (by decide), if_pos rfl, if_pos rfl, strings_HasPrefix.f, stringslite_HasPrefix.f, hsz, if_pos (by omega), if_pos (by omega), if_pos (by omega), Int.toNat_natCast, beq_self_eq_true]
    rfl
  have e5 : Ev (fun k => pred_Eval.f k 9 (⟨#[109]⟩ : ByteArray) 0 0 (⟨#[]⟩ : ByteArray) ([] : List ByteArray) ([] : List S25) 5 0 X) true := leaf_ev (by decide) (by decide) (by decide) (by decide) hl (by rw [lm]; exact Ev.congr (f := fun _ => some true) (fun k => by rw [pred_Cell.f, if_neg (by decide), if_neg (by decide), if_neg (by decide), if_neg (by decide), if_neg (by decide), if_pos rfl]; rfl) (Ev.now _))
  have e6 : Ev (fun k => pred_Eval.f k 10 (⟨#[]⟩ : ByteArray) 5 5 (⟨#[]⟩ : ByteArray) ([] : List ByteArray) ([] : List S25) 5 0 X) true := Ev.step (f := fun _ => some true) (fun k => by rw [pred_Eval.f, if_neg (by decide), if_neg (by decide), if_neg (by decide), if_pos rfl, if_pos (by decide)]; rfl) (Ev.now _)
  have e7 : Ev (fun k => pred_Eval.f k 6 (⟨#[110]⟩ : ByteArray) 0 0 s ([] : List ByteArray) ([] : List S25) 5 0 X) false := leaf_ev (by decide) (by decide) (by decide) (by decide) hl (by rw [ln]; exact Ev.congr (f := fun _ => some false) (fun k => by rw [pred_Cell.f, if_neg (by decide), if_neg (by decide), if_pos rfl, if_neg (by simp)]) (Ev.now _))
  refine Ev.step (fun k => by rw [columbariumlaw13_PredRules.j3, columbariumkeep_Num.f, Option.bind_some, columbariumkeep_Str.f, Option.bind_some, columbariumkeep_At.f, Option.bind_some, if_pos (by simp), Option.bind_some, List.nil_append, hX]) (Ev.bind e1 (Ev.bind e2 (Ev.bind e3 ?_)))
  rw [ew]
  simp only [Option.bind_some]
  refine Ev.congr (fun k => by rw [if_pos (by omega), if_pos (by omega), Int.toNat_natCast]) (Ev.bind e4 (Ev.bind e5 (Ev.bind e6 (Ev.bind e7 ?_))))
  simp only [beq_self_eq_true, if_true, Bool.false_eq_true, if_false]
  exact Ev.bind known_ev (Ev.now _)
theorem rules_j2 (n : Int) (s : ByteArray) : Ev (fun k => columbariumlaw13_PredRules.j2 k n s) true := by
  by_cases h : s.size > 20
  · exact Ev.step (fun k => by rw [columbariumlaw13_PredRules.j2, if_pos (by omega), if_pos (by omega), if_pos (by omega)]) (rules_j3 n (s.extract 0 20) (by rw [ByteArray.size_extract]; omega))
  · exact Ev.step (fun k => by rw [columbariumlaw13_PredRules.j2, if_neg (by omega)]) (rules_j3 n s (by omega))

end Go.Proofs.Ytalpcnomfebdiaa.QPredRules
namespace Go.Proofs.Ytalpcnomfebdiaa.Pure
open Go.RowKit Go.Proofs.Ytalpcnomfebdiaa.QPredRules Go.Proofs.YtalpcnomfebdiaaW.PrintWords Go.Proofs.YtalpcnomfebdiaaW.PrintLast Go.Proofs.Ytalpcnomfebdiaa.Base

theorem PredRules : columbariumlaw13_PredRules.Pure := by
  intro a0 a1 a2 a3 a4 sa la c0 c1 c2 n s _ _ _ _ _ _ _ _ _ _ _ _
  obtain ⟨p, hp, gp, cp⟩ := cut_ev 5 (by decide) ⟨a0, a1, a2, a3, a4, sa, la⟩
  have cb : cutB 5 = 1365 := by decide
  obtain ⟨t0, T, hT, ht⟩ := tame_ev c0 c1 3 c2
  have hp' : Ev (fun k => columbariumkeep_Cut.f k a0 a1 a2 a3 a4 sa la 5) (tp p) := hp
  obtain ⟨r, hr, hrs⟩ := right_ev p gp (by omega)
  have hj := rules_j2 n s
  refine Ev.rounds (g := fun k => columbariumlaw13_PredRules.f k a0 a1 a2 a3 a4 sa la c0 c1 c2 n s) (Ev.congr (fun k => by rw [columbariumlaw13_PredRules.f]) (Ev.bind hp' (Ev.bind ht (Ev.bind hr ?_))))
  cases r with
  | false =>
    simp only [Bool.false_eq_true, if_false]
    exact hj
  | true =>
    simp only [tp, if_true]
    refine Ev.bind (Cols_ev p (by omega)) ?_
    refine Ev.congr (fun k => by rw [columbariumkeep_At.f, Option.bind_some, if_pos (by simp), Option.bind_some]) ?_
    have hl := set_length (clS p)
    have hl2 := clS_len p
    exact rules_l0 gp (by omega) (hrs rfl) (by omega) (fun c hc => mem_set.2 hc) (by omega) rfl hj _ 0 [] rfl (Nat.zero_le _) (by rw [List.drop_zero, List.nil_append])

end Go.Proofs.Ytalpcnomfebdiaa.Pure
