/- A normal predicate is as true as the one that it is of, Not of it just where it is not; it is normal itself. -/
import Derived.Test.YtalpcnomfebdiaaTPredPartsPredNormal
namespace Go.Proofs.Ytalpcnomfebdiaa.QPredNormal
open Go.RowKit Go.Proofs.YtalpcnomfebdiaaW.PrintWords Go.Proofs.YtalpcnomfebdiaaW.PrintLast Go.Proofs.YtalpcnomfebdiaaW.PrintMore Go.Proofs.Ytalpcnomfebdiaa.Base
set_option linter.unusedVariables false
set_option linter.unusedSimpArgs false

/-! ### the normal form -/
def nd (a : Int) (l : List S25) : S25 := ⟨a, ⟨#[]⟩, 0, 0, ⟨#[]⟩, [], l⟩
def wrp (a : Int) (l : List S25) : S25 := if l.length = 1 then rd_T25 l 0 else nd a l
def kd (a : Int) (b : Bool) : Int := if b = true then wrap64 (3 - a) else a
mutual
def nm : Bool → S25 → S25
  | b, ⟨a0, a1, a2, a3, a4, s, l⟩ => if a0 = 3 then nmH (!b) l else if a0 = 1 ∨ a0 = 2 then wrp (kd a0 b) (nmL (kd a0 b) b l) else if b = true then nd 3 [⟨a0, a1, a2, a3, a4, s, l⟩] else ⟨a0, a1, a2, a3, a4, s, l⟩
def nmH : Bool → List S25 → S25
  | _, [] => z25
  | b, x :: _ => nm b x
def nmL : Int → Bool → List S25 → List S25
  | _, _, [] => []
  | a, b, x :: r => (if (nm b x).f0 = a then (nm b x).f6 else [nm b x]) ++ nmL a b r
end
theorem nm_eq (b : Bool) (x : S25) : nm b x = if x.f0 = 3 then nmH (!b) x.f6 else if x.f0 = 1 ∨ x.f0 = 2 then wrp (kd x.f0 b) (nmL (kd x.f0 b) b x.f6) else if b = true then nd 3 [x] else x := by cases x; rw [nm]
theorem kd_t1 : kd 1 true = 2 := by rw [kd, if_pos rfl, w64 (by omega) (by omega)]; rfl
theorem kd_t2 : kd 2 true = 1 := by rw [kd, if_pos rfl, w64 (by omega) (by omega)]; rfl
theorem kd_12 {a : Int} {b : Bool} (h : a = 1 ∨ a = 2) : kd a b = 1 ∨ kd a b = 2 := by
  rcases h with rfl | rfl <;> cases b
  · exact Or.inl rfl
  · exact Or.inr kd_t1
  · exact Or.inr rfl
  · exact Or.inl kd_t2
/-- Every Not that is met has what it is about. -/
inductive NK : S25 → Prop where
  | mk {x : S25} (h3 : x.f0 = 3 → x.f6 ≠ []) (hk : x.f0 = 1 ∨ x.f0 = 2 ∨ x.f0 = 3 → ∀ y ∈ x.f6, NK y) : NK x
theorem nk_of_rs : ∀ x : S25, RS x → NK x := by
  refine tree_ind fun x ih h => ?_
  obtain ⟨h0, h3, hk⟩ := h
  exact ⟨fun e => by intro en; have := h3 e; rw [en] at this; simp at this, fun _ y hy => ih y hy (hk y hy)⟩
theorem wrp_kids (a : Int) (l : List S25) : cnt (wrp a l) ≤ 1 + cntL l ∧ ((∀ y ∈ l, Slim y) → Slim (wrp a l)) := by
  unfold wrp
  split
  · next h =>
    match l, h with
    | [y], _ => rw [rd25_0, cntL]; exact ⟨by omega, fun h => h y List.mem_cons_self⟩
  · exact ⟨by rw [cnt_eq]; exact Nat.le_refl _, fun h => ⟨by simp [nd], h⟩⟩
theorem nm_good : ∀ x : S25, Slim x → ∀ b, Slim (nm b x) := by
  refine tree_ind fun x ih hg b => ?_
  have hk := hg.kids
  rw [nm_eq]
  split
  · cases he : x.f6 with
    | nil => rw [nmH]; exact ⟨by simp [z25], fun y hy => absurd hy List.not_mem_nil⟩
    | cons y r => rw [nmH]; exact ih y (by rw [he]; exact List.mem_cons_self) (hk y (by rw [he]; exact List.mem_cons_self)) _
  split
  · refine (wrp_kids _ _).2 ?_
    generalize kd x.f0 b = a
    have : ∀ l : List S25, (∀ y ∈ l, Slim (nm b y)) → ∀ z ∈ nmL a b l, Slim z := by
      intro l
      induction l with
      | nil => intro _ z hz; rw [nmL] at hz; exact absurd hz List.not_mem_nil
      | cons y r ihr =>
        intro h z hz
        rw [nmL] at hz
        rcases List.mem_append.1 hz with hz | hz
        · split at hz
          · exact (h y List.mem_cons_self).kids z hz
          · rw [List.mem_singleton.1 hz]; exact h y List.mem_cons_self
        · exact ihr (fun w hw => h w (List.mem_cons_of_mem _ hw)) z hz
    exact this x.f6 (fun y hy => ih y hy (hk y hy) b)
  split
  · exact ⟨by simp [nd], fun y hy => by rw [List.mem_singleton.1 hy]; exact hg⟩
  · exact hg
theorem nmL_cnt {a : Int} {b : Bool} (l : List S25) (ih : ∀ y ∈ l, cnt (nm b y) ≤ 2 * cnt y) : cntL (nmL a b l) ≤ 2 * cntL l := by
  induction l with
  | nil => rw [nmL, cntL]; exact Nat.zero_le _
  | cons y r ihr =>
    have h1 := ih y List.mem_cons_self
    have h2 := ihr (fun w hw => ih w (List.mem_cons_of_mem _ hw))
    rw [nmL, cntL_append, cntL]
    split
    · rw [cnt_eq (nm b y)] at h1; omega
    · rw [cntL, cntL]; omega
theorem nm_cnt : ∀ x : S25, ∀ b, cnt (nm b x) ≤ 2 * cnt x := by
  refine tree_ind fun x ih b => ?_
  rw [nm_eq, cnt_eq x]
  split
  · cases he : x.f6 with
    | nil => rw [nmH, cntL]; decide
    | cons y r =>
      have := ih y (by rw [he]; exact List.mem_cons_self) (!b)
      rw [nmH, cntL]; omega
  split
  · have h1 := (wrp_kids (kd x.f0 b) (nmL (kd x.f0 b) b x.f6)).1
    have h2 := nmL_cnt (a := kd x.f0 b) x.f6 (fun y hy => ih y hy b)
    omega
  split
  · rw [cnt_eq]; simp only [nd, cntL]; rw [cnt_eq]; omega
  · rw [cnt_eq]; omega
theorem norm_l {a : Int} {b : Bool} {l : List S25} (hl : l.length < 1000000) (hn : (nmL a b l).length < 1000000) (ih : ∀ y ∈ l, Ev (fun k => pred_normal.f k y.f0 y.f1 y.f2 y.f3 y.f4 y.f5 y.f6 b) (tp (nm b y))) (m : Nat) :
    ∀ (i : Nat) (acc : List S25), l.length - i = m → i ≤ l.length → acc ++ nmL a b (l.drop i) = nmL a b l → Ev (fun k => pred_normal.l0 k b a l (l.length : Int) (i : Int) a (⟨#[]⟩ : ByteArray) 0 0 (⟨#[]⟩ : ByteArray) acc) (tp (wrp a (nmL a b l))) := by
  induction m with
  | zero =>
    intro i acc hm hi ha
    rw [List.drop_eq_nil_of_le (by omega), nmL, List.append_nil] at ha
    rw [← ha]
    unfold wrp
    by_cases h : acc.length = 1
    · rw [if_pos h]
      exact Ev.step (f := fun _ => some _) (fun k => by rw [pred_normal.l0, if_neg (by omega), if_pos (by omega), if_pos (by omega)]; rfl) (Ev.now _)
    · rw [if_neg h]
      exact Ev.step (f := fun _ => some _) (fun k => by rw [pred_normal.l0, if_neg (by omega), if_neg (by omega)]; rfl) (Ev.now _)
  | succ m ihm =>
    intro i acc hm hi ha
    have h : i < l.length := by omega
    rw [drop_at h, nmL] at ha
    have hlen := congrArg List.length ha
    simp only [List.length_append] at hlen
    refine Ev.step (fun k => by rw [pred_normal.l0, if_pos (by omega), if_pos (by omega), if_pos (by omega), rd25 l i h]) (Ev.bind (ih _ (List.getElem_mem h)) ?_)
    by_cases c : (nm b l[i]).f0 = a
    · rw [if_pos c, ← List.append_assoc] at ha
      rw [if_pos c] at hlen
      refine Ev.congr (fun k => ?_) (ihm (i + 1) _ (by omega) (by omega) ha)
      rw [if_pos (show (tp (nm b l[i])).1 = a from c), if_pos (show acc.length + (tp (nm b l[i])).2.2.2.2.2.2.length < 1353245080339 by simp only [tp]; omega), succ64 (by omega)]
      rfl
    · rw [if_neg c, ← List.append_assoc] at ha
      rw [if_neg c] at hlen
      refine Ev.congr (fun k => ?_) (ihm (i + 1) _ (by omega) (by omega) ha)
      rw [if_neg (show ¬ (tp (nm b l[i])).1 = a from c), if_pos (by omega), succ64 (by omega), tp_mk]
theorem norm_ev : ∀ x : S25, NK x → Slim x → cnt x < 400000 → ∀ b, Ev (fun k => pred_normal.f k x.f0 x.f1 x.f2 x.f3 x.f4 x.f5 x.f6 b) (tp (nm b x)) := by
  refine tree_ind fun x ih hn hg hc b => ?_
  obtain ⟨h3, hk⟩ := hn
  rw [nm_eq]
  by_cases c3 : x.f0 = 3
  · rw [if_pos c3]
    cases he : x.f6 with
    | nil => exact absurd he (h3 c3)
    | cons y r =>
      have hy : y ∈ x.f6 := by rw [he]; exact List.mem_cons_self
      rw [nmH]
      refine Ev.step (fun k => by rw [pred_normal.f, if_pos c3, if_pos (by simp), rd25_0]) (Ev.bind (ih y hy (hk (Or.inr (Or.inr c3)) y hy) (hg.kids y hy) (cnt_kid hy hc) (!b)) ?_)
      exact Ev.congr (f := fun _ => some (tp (nm (!b) y))) (fun k => rfl) (Ev.now _)
  rw [if_neg c3]
  by_cases c12 : x.f0 = 1 ∨ x.f0 = 2
  · rw [if_pos c12]
    have hj : Ev (fun k => pred_normal.j0 k b x.f0 true x.f0 x.f1 x.f2 x.f3 x.f4 x.f5 x.f6) (tp (wrp (kd x.f0 b) (nmL (kd x.f0 b) b x.f6))) := by
      have h1 := norm_l (a := kd x.f0 b) (b := b) (l := x.f6) (by have := cnt_len hc; omega) (by have h := nmL_cnt (a := kd x.f0 b) (b := b) x.f6 (fun y _ => nm_cnt y b); have := cntL_len (nmL (kd x.f0 b) b x.f6); rw [cnt_eq] at hc; omega) (fun y hy => ih y hy (hk (by rcases c12 with h | h; exact Or.inl h; exact Or.inr (Or.inl h)) y hy) (hg.kids y hy) (cnt_kid hy hc) b) _ 0 [] rfl (Nat.zero_le _) (by rw [List.drop_zero, List.nil_append])
      refine Ev.step (f := fun k => pred_normal.j1 k b (kd x.f0 b) x.f0 x.f1 x.f2 x.f3 x.f4 x.f5 x.f6) (fun k => ?_) (Ev.step (fun k => by rw [pred_normal.j1]; rfl) h1)
      rw [pred_normal.j0, if_pos rfl]
      cases b <;> rfl
    rcases c12 with h | h
    · exact Ev.step (fun k => by rw [pred_normal.f, if_neg c3, if_pos h, show (x.f0 == 1) = true from beq_iff_eq.2 h]) hj
    · exact Ev.step (fun k => by rw [pred_normal.f, if_neg c3, if_neg (by omega), show (x.f0 == 2) = true from beq_iff_eq.2 h]) hj
  rw [if_neg c12]
  have hcopy := copy_ev x hg (by omega)
  have hj : Ev (fun k => pred_normal.j0 k b x.f0 false x.f0 x.f1 x.f2 x.f3 x.f4 x.f5 x.f6) (tp (if b = true then nd 3 [x] else x)) := by
    cases b with
    | true => exact Ev.step (fun k => by rw [pred_normal.j0, if_neg Bool.false_ne_true, if_pos rfl]) (Ev.bind hcopy (Ev.congr (f := fun _ => some (tp (nd 3 [x]))) (fun k => by rw [tp_mk]; rfl) (Ev.now _)))
    | false => exact Ev.step (fun k => by rw [pred_normal.j0, if_neg Bool.false_ne_true, if_neg Bool.false_ne_true]) (Ev.bind hcopy (Ev.congr (f := fun _ => some (tp x)) (fun k => rfl) (Ev.now _)))
  have c1 : ¬ x.f0 = 1 := fun h => c12 (Or.inl h)
  have c2 : ¬ x.f0 = 2 := fun h => c12 (Or.inr h)
  exact Ev.step (fun k => by rw [pred_normal.f, if_neg c3, if_neg c1, show (x.f0 == 2) = false from beq_eq_false_iff_ne.2 c2]) hj

/-! ### what it is true of -/
theorem evA_append (t : Int × Int × List S52) (a b : List S25) : evA t (a ++ b) = (evA t a && evA t b) := by
  induction a with
  | nil => simp [evA]
  | cons x a ih => rw [List.cons_append, evA, evA, ih, Bool.and_assoc]
theorem evO_append (t : Int × Int × List S52) (a b : List S25) : evO t (a ++ b) = (evO t a || evO t b) := by
  induction a with
  | nil => simp [evO]
  | cons x a ih => rw [List.cons_append, evO, evO, ih, Bool.or_assoc]
theorem ev_wrp (t : Int × Int × List S52) {a : Int} (h : a = 1 ∨ a = 2) (l : List S25) : ev t (wrp a l) = if a = 1 then evA t l else evO t l := by
  unfold wrp
  split
  · next hl =>
    match l, hl with
    | [y], _ => rw [rd25_0, evA, evA, evO, evO]; simp
  · rw [ev_eq]
    rcases h with rfl | rfl <;> simp [nd]
theorem evA_nmL (t : Int × Int × List S52) (b : Bool) (l : List S25) (ih : ∀ y ∈ l, ev t (nm b y) = (ev t y ^^ b)) : evA t (nmL 1 b l) = if b = true then !evO t l else evA t l := by
  induction l with
  | nil => rw [nmL, evA, evO]; simp
  | cons y r ihr =>
    have h1 := ih y List.mem_cons_self
    rw [nmL, evA_append, ihr (fun w hw => ih w (List.mem_cons_of_mem _ hw))]
    have : evA t (if (nm b y).f0 = 1 then (nm b y).f6 else [nm b y]) = (ev t y ^^ b) := by
      split
      · next c => rw [← h1, ev_eq, if_pos c]
      · rw [evA, evA, Bool.and_true, h1]
    rw [this, evO, evA]
    cases b <;> cases ev t y <;> simp
theorem evO_nmL (t : Int × Int × List S52) (b : Bool) (l : List S25) (ih : ∀ y ∈ l, ev t (nm b y) = (ev t y ^^ b)) : evO t (nmL 2 b l) = if b = true then !evA t l else evO t l := by
  induction l with
  | nil => rw [nmL, evA, evO]; simp
  | cons y r ihr =>
    have h1 := ih y List.mem_cons_self
    rw [nmL, evO_append, ihr (fun w hw => ih w (List.mem_cons_of_mem _ hw))]
    have : evO t (if (nm b y).f0 = 2 then (nm b y).f6 else [nm b y]) = (ev t y ^^ b) := by
      split
      · next c => rw [← h1, ev_eq, if_neg (by omega), if_pos c]
      · rw [evO, evO, Bool.or_false, h1]
    rw [this, evO, evA]
    cases b <;> cases ev t y <;> simp
theorem ev_nm (t : Int × Int × List S52) : ∀ x : S25, RS x → ∀ b, ev t (nm b x) = (ev t x ^^ b) := by
  refine tree_ind fun x ih h b => ?_
  obtain ⟨h0, h3, hk⟩ := h
  rw [nm_eq, ev_eq t x]
  by_cases c3 : x.f0 = 3
  · have hl := h3 c3
    rw [if_pos c3, if_neg (by omega), if_neg (by omega), if_pos c3]
    match he : x.f6, hl with
    | [y], _ =>
      rw [nmH, evN, ih y (by rw [he]; exact List.mem_cons_self) (hk y (by rw [he]; exact List.mem_cons_self))]
      cases b <;> cases ev t y <;> rfl
  rw [if_neg c3]
  by_cases c1 : x.f0 = 1
  · rw [if_pos (Or.inl c1), if_pos c1, c1]
    cases b with
    | false => rw [show kd 1 false = 1 from rfl, ev_wrp t (Or.inl rfl), if_pos rfl, evA_nmL t false x.f6 (fun y hy => ih y hy (hk y hy) false)]; simp
    | true => rw [kd_t1, ev_wrp t (Or.inr rfl), if_neg (by decide), evO_nmL t true x.f6 (fun y hy => ih y hy (hk y hy) true)]; simp
  by_cases c2 : x.f0 = 2
  · rw [if_pos (Or.inr c2), if_neg c1, if_pos c2, c2]
    cases b with
    | false => rw [show kd 2 false = 2 from rfl, ev_wrp t (Or.inr rfl), if_neg (by decide), evO_nmL t false x.f6 (fun y hy => ih y hy (hk y hy) false)]; simp
    | true => rw [kd_t2, ev_wrp t (Or.inl rfl), if_pos rfl, evA_nmL t true x.f6 (fun y hy => ih y hy (hk y hy) true)]; simp
  rw [if_neg (by omega), if_neg c1, if_neg c2, if_neg c3]
  cases b with
  | false => rw [if_neg (by decide), ev_eq, if_neg c1, if_neg c2, if_neg c3]; simp
  | true => rw [if_pos rfl, ev_eq, if_neg (by simp [nd]), if_neg (by simp [nd]), if_pos (by simp [nd])]; simp only [nd, evN]; rw [ev_eq, if_neg c1, if_neg c2, if_neg c3]; simp

/-! ### it is normal -/
inductive FL : Int → S25 → Prop where
  | mk {a : Int} {x : S25} (hz : x.f0 = 1 ∨ x.f0 = 2 ∨ x.f0 = 3 → x = nd x.f0 x.f6) (h3 : x.f0 = 3 → ∃ y, x.f6 = [y] ∧ 3 < y.f0) (h12 : x.f0 = 1 ∨ x.f0 = 2 → x.f0 ≠ a ∧ x.f6.length ≠ 1) (hk : x.f0 = 1 ∨ x.f0 = 2 → ∀ y ∈ x.f6, FL x.f0 y) : FL a x
theorem fl_any {a a' : Int} {x : S25} (h : FL a x) (hne : x.f0 ≠ a' ∨ a' = 0) : FL a' x := by
  obtain ⟨hz, h3, h12, hk⟩ := h
  exact ⟨hz, h3, fun c => ⟨by rcases hne with h | h; exact h; omega, (h12 c).2⟩, hk⟩
theorem fl_wrp {a : Int} (ha : a = 1 ∨ a = 2) {l : List S25} (h : ∀ y ∈ l, FL a y) : FL 0 (wrp a l) := by
  unfold wrp
  split
  · next hl =>
    match l, hl with
    | [y], _ => rw [rd25_0]; exact fl_any (h y List.mem_cons_self) (Or.inr rfl)
  · next hl => exact ⟨fun _ => rfl, fun e => by simp [nd] at e; omega, fun _ => ⟨by simp [nd]; omega, hl⟩, fun _ => h⟩
theorem fl_nm : ∀ x : S25, RS x → ∀ b, FL 0 (nm b x) := by
  refine tree_ind fun x ih h b => ?_
  obtain ⟨h0, h3, hk⟩ := h
  rw [nm_eq]
  by_cases c3 : x.f0 = 3
  · have hl := h3 c3
    rw [if_pos c3]
    match he : x.f6, hl with
    | [y], _ => rw [nmH]; exact ih y (by rw [he]; exact List.mem_cons_self) (hk y (by rw [he]; exact List.mem_cons_self)) _
  rw [if_neg c3]
  by_cases c12 : x.f0 = 1 ∨ x.f0 = 2
  · rw [if_pos c12]
    have ha := kd_12 (b := b) c12
    refine fl_wrp ha ?_
    generalize kd x.f0 b = a at ha
    have : ∀ l : List S25, (∀ y ∈ l, FL 0 (nm b y)) → ∀ z ∈ nmL a b l, FL a z := by
      intro l
      induction l with
      | nil => intro _ z hz; rw [nmL] at hz; exact absurd hz List.not_mem_nil
      | cons y r ihr =>
        intro h z hz
        rw [nmL] at hz
        rcases List.mem_append.1 hz with hz | hz
        · split at hz
          · next c =>
            have hf := h y List.mem_cons_self
            obtain ⟨_, _, _, hk'⟩ := hf
            rw [← c]
            exact hk' (by rw [c]; exact ha) z hz
          · next c => rw [List.mem_singleton.1 hz]; exact fl_any (h y List.mem_cons_self) (Or.inl c)
        · exact ihr (fun w hw => h w (List.mem_cons_of_mem _ hw)) z hz
    exact this x.f6 (fun y hy => ih y hy (hk y hy) b)
  rw [if_neg c12]
  cases b with
  | true => exact ⟨fun _ => rfl, fun _ => ⟨x, rfl, by omega⟩, fun c => by simp [nd] at c, fun c => by simp [nd] at c⟩
  | false =>
    rw [if_neg (by decide)]
    exact ⟨fun c => absurd c (by omega), fun c => absurd c c3, fun c => absurd c c12, fun c => absurd c c12⟩
theorem nk_of_fl : ∀ x : S25, ∀ a, FL a x → NK x := by
  refine tree_ind fun x ih a h => ?_
  obtain ⟨hz, h3, h12, hk⟩ := h
  refine ⟨fun c => ?_, fun c y hy => ?_⟩
  · obtain ⟨y, hy, _⟩ := h3 c
    rw [hy]; simp
  · by_cases c3 : x.f0 = 3
    · obtain ⟨z, hz, hgt⟩ := h3 c3
      rw [hz] at hy
      rw [List.mem_singleton.1 hy]
      exact ⟨fun c => by omega, fun c => by omega⟩
    · exact ih y hy x.f0 (hk (by omega) y hy)
theorem nm_id : ∀ x : S25, ∀ a, FL a x → nm false x = x := by
  refine tree_ind fun x ih a h => ?_
  obtain ⟨hz, h3, h12, hk⟩ := h
  rw [nm_eq]
  by_cases c3 : x.f0 = 3
  · obtain ⟨y, hy, hgt⟩ := h3 c3
    have e := hz (Or.inr (Or.inr c3))
    rw [c3, hy] at e
    rw [if_pos c3, hy, nmH, nm_eq, if_neg (by omega), if_neg (by omega)]
    exact e.symm
  rw [if_neg c3]
  by_cases c12 : x.f0 = 1 ∨ x.f0 = 2
  · rw [if_pos c12, show kd x.f0 false = x.f0 from rfl]
    have hl : nmL x.f0 false x.f6 = x.f6 := by
      have : ∀ l : List S25, (∀ y ∈ l, nm false y = y ∧ y.f0 ≠ x.f0) → nmL x.f0 false l = l := by
        intro l
        induction l with
        | nil => intro _; rw [nmL]
        | cons y r ihr =>
          intro h
          obtain ⟨e1, e2⟩ := h y List.mem_cons_self
          rw [nmL, e1, if_neg e2, ihr (fun w hw => h w (List.mem_cons_of_mem _ hw))]
          rfl
      refine this x.f6 fun y hy => ⟨ih y hy _ (hk c12 y hy), ?_⟩
      have hf := hk c12 y hy
      obtain ⟨_, _, h12', _⟩ := hf
      intro e
      exact (h12' (by rw [e]; exact c12)).1 e
    rw [hl, wrp, if_neg (h12 c12).2]
    exact (hz (by rcases c12 with h | h; exact Or.inl h; exact Or.inr (Or.inl h))).symm
  rw [if_neg c12, if_neg (by decide)]
theorem flat_l {x : S25} (hc : x.f6.length < 1000000) (ih : ∀ y ∈ x.f6, Ev (fun k => columbariumlaw13_flat.f k y.f0 y.f1 y.f2 y.f3 y.f4 y.f5 y.f6 x.f0) true) (m : Nat) :
    ∀ i : Nat, x.f6.length - i = m → i ≤ x.f6.length → Ev (fun k => columbariumlaw13_flat.l0 k (i : Int) x.f0 x.f1 x.f2 x.f3 x.f4 x.f5 x.f6) true := by
  induction m with
  | zero => exact fun i hm hi => Ev.step (f := fun _ => some true) (fun k => by rw [columbariumlaw13_flat.l0, if_neg (by omega)]) (Ev.now _)
  | succ m ihm =>
    intro i hm hi
    have h : i < x.f6.length := by omega
    exact Ev.step (fun k => by rw [columbariumlaw13_flat.l0, if_pos (by omega), if_pos (by omega), rd25 _ i h]) (Ev.bind (ih _ (List.getElem_mem h)) (Ev.congr (fun k => by rw [if_pos rfl, succ64 (by omega)]) (ihm (i + 1) (by omega) (by omega))))
theorem flat_ev : ∀ x : S25, ∀ a, FL a x → cnt x < 1000000 → Ev (fun k => columbariumlaw13_flat.f k x.f0 x.f1 x.f2 x.f3 x.f4 x.f5 x.f6 a) true := by
  refine tree_ind fun x ih a h hc => ?_
  obtain ⟨hz, h3, h12, hk⟩ := h
  have hl := cnt_len hc
  by_cases c3 : x.f0 = 3
  · obtain ⟨y, hy, hgt⟩ := h3 c3
    exact Ev.step (f := fun _ => some true) (fun k => by rw [columbariumlaw13_flat.f, if_pos c3, hy, if_pos (by simp), if_pos (by simp), rd25_0, decide_eq_true hgt]) (Ev.now _)
  have hj : Ev (fun k => columbariumlaw13_flat.j0 k a (decide (x.f0 = 1 ∨ x.f0 = 2)) x.f0 x.f1 x.f2 x.f3 x.f4 x.f5 x.f6) true := by
    by_cases c12 : x.f0 = 1 ∨ x.f0 = 2
    · obtain ⟨n1, n2⟩ := h12 c12
      rw [decide_eq_true c12]
      have hb : ((x.f6.length : Int) == 1) = false := beq_eq_false_iff_ne.2 (by omega)
      exact Ev.step (fun k => by rw [columbariumlaw13_flat.j0, if_pos rfl, if_neg n1, hb]) (Ev.step (fun k => by rw [columbariumlaw13_flat.j1, if_neg Bool.false_ne_true]; rfl) (flat_l hl (fun y hy => ih y hy _ (hk c12 y hy) (cnt_kid hy hc)) _ 0 rfl (Nat.zero_le _)))
    · rw [decide_eq_false c12]
      exact Ev.step (f := fun _ => some true) (fun k => by rw [columbariumlaw13_flat.j0, if_neg Bool.false_ne_true]) (Ev.now _)
  by_cases c1 : x.f0 = 1
  · exact Ev.step (fun k => by rw [columbariumlaw13_flat.f, if_neg c3, if_pos c1, show (x.f0 == 1) = decide (x.f0 = 1 ∨ x.f0 = 2) by rw [c1]; rfl]) hj
  · refine Ev.step (fun k => ?_) hj
    rw [columbariumlaw13_flat.f, if_neg c3, if_neg c1]
    congr 1
    by_cases c2 : x.f0 = 2
    · rw [c2]; rfl
    · rw [decide_eq_false (by omega)]; exact beq_eq_false_iff_ne.2 c2

/-! ### Short -/
theorem short_in (x0 : List S36) (L : List S36) (hL : L.length ≤ 10) (i : Nat) (hi : i < 10) (a b : Int) (l2 : List S52)
    (nxt : ∀ S : List S52, ∃ R : List S36, R.length ≤ 10 ∧ Ev (fun k => columbariumkeep_Short.l0 k x0 10 (L ++ [⟨a, b, S⟩]) ((i + 1 : Nat) : Int)) R) (m : Nat) :
    ∀ (j : Nat) (S : List S52), S.length - j = m → j ≤ S.length → S.length < 1000 → ∃ R : List S36, R.length ≤ 10 ∧ Ev (fun k => columbariumkeep_Short.l1 k x0 10 L (i : Int) S (j : Int) a b l2) R := by
  induction m with
  | zero =>
    intro j S hm hj hS
    obtain ⟨R, hR, he⟩ := nxt S
    exact ⟨R, hR, Ev.step (fun k => by rw [columbariumkeep_Short.l1, if_neg (by omega), if_pos (by omega), succ64 (by omega)]) he⟩
  | succ m ihm =>
    intro j S hm hj hS
    by_cases h1 : ((rd_T52 S (j : Int)).f3).size > 41
    · by_cases h2 : ((rd_T52 (S.set ((j : Int)).toNat (⟨(rd_T52 S (j : Int)).f0, (rd_T52 S (j : Int)).f1, (rd_T52 S (j : Int)).f2, ((rd_T52 S (j : Int)).f3).extract 0 41⟩ : S52)) (j : Int)).f0).size > 20
      · obtain ⟨R, hR, he⟩ := ihm (j + 1) ((S.set ((j : Int)).toNat (⟨(rd_T52 S (j : Int)).f0, (rd_T52 S (j : Int)).f1, (rd_T52 S (j : Int)).f2, ((rd_T52 S (j : Int)).f3).extract 0 41⟩ : S52)).set ((j : Int)).toNat (⟨((rd_T52 (S.set ((j : Int)).toNat (⟨(rd_T52 S (j : Int)).f0, (rd_T52 S (j : Int)).f1, (rd_T52 S (j : Int)).f2, ((rd_T52 S (j : Int)).f3).extract 0 41⟩ : S52)) (j : Int)).f0).extract 0 20, (rd_T52 (S.set ((j : Int)).toNat (⟨(rd_T52 S (j : Int)).f0, (rd_T52 S (j : Int)).f1, (rd_T52 S (j : Int)).f2, ((rd_T52 S (j : Int)).f3).extract 0 41⟩ : S52)) (j : Int)).f1, (rd_T52 (S.set ((j : Int)).toNat (⟨(rd_T52 S (j : Int)).f0, (rd_T52 S (j : Int)).f1, (rd_T52 S (j : Int)).f2, ((rd_T52 S (j : Int)).f3).extract 0 41⟩ : S52)) (j : Int)).f2, (rd_T52 (S.set ((j : Int)).toNat (⟨(rd_T52 S (j : Int)).f0, (rd_T52 S (j : Int)).f1, (rd_T52 S (j : Int)).f2, ((rd_T52 S (j : Int)).f3).extract 0 41⟩ : S52)) (j : Int)).f3⟩ : S52)) (by simp; omega) (by simp; omega) (by simp; omega)
        exact ⟨R, hR, Ev.step (fun k => by rw [columbariumkeep_Short.l1, if_pos (by omega), if_pos (by omega), if_pos (by omega), if_pos (by omega), if_pos (by omega), Option.bind_some, if_pos (by omega), if_pos (by omega), if_pos (by omega), succ64 (by omega)]) he⟩
      · obtain ⟨R, hR, he⟩ := ihm (j + 1) (S.set ((j : Int)).toNat (⟨(rd_T52 S (j : Int)).f0, (rd_T52 S (j : Int)).f1, (rd_T52 S (j : Int)).f2, ((rd_T52 S (j : Int)).f3).extract 0 41⟩ : S52)) (by simp; omega) (by simp; omega) (by simp; omega)
        exact ⟨R, hR, Ev.step (fun k => by rw [columbariumkeep_Short.l1, if_pos (by omega), if_pos (by omega), if_pos (by omega), if_pos (by omega), if_pos (by omega), Option.bind_some, if_neg (by omega), succ64 (by omega)]) he⟩
    · by_cases h2 : ((rd_T52 S (j : Int)).f0).size > 20
      · obtain ⟨R, hR, he⟩ := ihm (j + 1) (S.set ((j : Int)).toNat (⟨((rd_T52 S (j : Int)).f0).extract 0 20, (rd_T52 S (j : Int)).f1, (rd_T52 S (j : Int)).f2, (rd_T52 S (j : Int)).f3⟩ : S52)) (by simp; omega) (by simp; omega) (by simp; omega)
        exact ⟨R, hR, Ev.step (fun k => by rw [columbariumkeep_Short.l1, if_pos (by omega), if_pos (by omega), if_neg (by omega), if_pos (by omega), if_pos (by omega), if_pos (by omega), succ64 (by omega)]) he⟩
      · obtain ⟨R, hR, he⟩ := ihm (j + 1) S (by omega) (by omega) hS
        exact ⟨R, hR, Ev.step (fun k => by rw [columbariumkeep_Short.l1, if_pos (by omega), if_pos (by omega), if_neg (by omega), if_neg (by omega), succ64 (by omega)]) he⟩
theorem short_l (x0 : List S36) (hx : ∀ x ∈ x0, x.f2.length * 48 ≤ 140737488351232) (m : Nat) : ∀ (i : Nat) (L : List S36), 10 - i = m → i ≤ 10 → L.length = i → ∃ R : List S36, R.length ≤ 10 ∧ Ev (fun k => columbariumkeep_Short.l0 k x0 10 L (i : Int)) R := by
  have stop : ∀ (i : Nat) (L : List S36), L.length ≤ 10 → ∃ R : List S36, R.length ≤ 10 ∧ Ev (fun k => columbariumkeep_Short.j1 k x0 10 L (i : Int) false) R :=
    fun i L hL => ⟨L, hL, Ev.step (f := fun _ => some L) (fun k => by rw [columbariumkeep_Short.j1, if_neg Bool.false_ne_true]) (Ev.now _)⟩
  induction m with
  | zero =>
    intro i L hm hi hL
    obtain ⟨R, hR, he⟩ := stop i L (by omega)
    refine ⟨R, hR, Ev.step (fun k => ?_) he⟩
    rw [columbariumkeep_Short.l0]
    split
    · rw [decide_eq_false (by omega)]
    · rfl
  | succ m ihm =>
    intro i L hm hi hL
    by_cases h : i < x0.length
    · have hlen : ((rd_T36 x0 (i : Int)).f2).length * 48 ≤ 140737488351232 := by
        rw [show rd_T36 x0 (i : Int) = x0[i] by simp [rd_T36, List.getD_eq_getElem?_getD, List.getElem?_eq_getElem h]]
        exact hx _ (List.getElem_mem h)
      have nxt : ∀ S : List S52, ∃ R : List S36, R.length ≤ 10 ∧ Ev (fun k => columbariumkeep_Short.l0 k x0 10 (L ++ [⟨(rd_T36 x0 (i : Int)).f0, (rd_T36 x0 (i : Int)).f1, S⟩]) ((i + 1 : Nat) : Int)) R := fun S => ihm (i + 1) _ (by omega) (by omega) (by simp [hL])
      by_cases c : ((rd_T36 x0 (i : Int)).f2).length > 10
      · obtain ⟨R, hR, he⟩ := short_in x0 L (by omega) i (by omega) (rd_T36 x0 (i : Int)).f0 (rd_T36 x0 (i : Int)).f1 (rd_T36 x0 (i : Int)).f2 nxt _ 0 ((rd_T36 x0 (i : Int)).f2.take 10) rfl (Nat.zero_le _) (by rw [List.length_take]; omega)
        exact ⟨R, hR, Ev.step (fun k => by rw [columbariumkeep_Short.l0, if_pos (by omega), decide_eq_true (by omega)]) (Ev.step (fun k => by rw [columbariumkeep_Short.j1, if_pos rfl, if_pos (by omega), if_pos (by omega), Option.bind_some, if_pos (by simp; omega), Option.bind_some, List.nil_append, if_pos (by omega), if_pos (by omega)]) (Ev.step (fun k => by rw [columbariumkeep_Short.j2]; rfl) he))⟩
      · obtain ⟨R, hR, he⟩ := short_in x0 L (by omega) i (by omega) (rd_T36 x0 (i : Int)).f0 (rd_T36 x0 (i : Int)).f1 (rd_T36 x0 (i : Int)).f2 nxt _ 0 (rd_T36 x0 (i : Int)).f2 rfl (Nat.zero_le _) (by omega)
        exact ⟨R, hR, Ev.step (fun k => by rw [columbariumkeep_Short.l0, if_pos (by omega), decide_eq_true (by omega)]) (Ev.step (fun k => by rw [columbariumkeep_Short.j1, if_pos rfl, if_pos (by omega), if_pos (by omega), Option.bind_some, if_pos (by simp; omega), Option.bind_some, List.nil_append, if_neg (by omega)]) (Ev.step (fun k => by rw [columbariumkeep_Short.j2]; rfl) he))⟩
    · obtain ⟨R, hR, he⟩ := stop i L (by omega)
      exact ⟨R, hR, Ev.step (fun k => by rw [columbariumkeep_Short.l0, if_neg (by omega)]) he⟩

theorem short_ev (x0 : List S36) (hx : ∀ x ∈ x0, x.f2.length * 48 ≤ 140737488351232) : ∃ R : List S36, R.length ≤ 10 ∧ Ev (fun k => columbariumkeep_Short.f k x0 10) R := by
  obtain ⟨R, hR, h⟩ := short_l x0 hx _ 0 [] rfl (by omega) rfl
  exact ⟨R, hR, h⟩

/-! ### the law -/
theorem known_ev : Ev (fun k => columbariumlaw13_known.f k) true := Ev.of columbariumlaw13_known.mono (k := 60) (by decide +kernel)
/-- Normal of what is normal, or may not be: itself. -/
theorem normal_self (x : S25) (hg : Slim x) (hc : cnt x < 400000) {r : Bool} (hr : Ev (fun k => pred_Right.f k x.f0 x.f1 x.f2 x.f3 x.f4 x.f5 x.f6) r) (h : r = true → FL 0 x) : Ev (fun k => pred_Normal.f k x.f0 x.f1 x.f2 x.f3 x.f4 x.f5 x.f6) (tp x) := by
  cases r with
  | true =>
    have hn := norm_ev x (nk_of_fl x 0 (h rfl)) hg hc false
    rw [nm_id x 0 (h rfl)] at hn
    exact Ev.congr (fun k => by rw [pred_Normal.f]) (Ev.bind hr (Ev.congr (fun k => by rw [if_pos rfl]) (Ev.bind hn (Ev.congr (f := fun _ => some (tp x)) (fun k => rfl) (Ev.now _)))))
  | false => exact Ev.congr (fun k => by rw [pred_Normal.f]) (Ev.bind hr (Ev.congr (fun k => by rw [if_neg Bool.false_ne_true]) (Ev.bind (copy_ev x hg (by omega)) (Ev.congr (f := fun _ => some (tp x)) (fun k => rfl) (Ev.now _)))))
theorem normal_true (x : S25) (hg : Slim x) (hc : cnt x < 400000) (hrs : RS x) (hr : Ev (fun k => pred_Right.f k x.f0 x.f1 x.f2 x.f3 x.f4 x.f5 x.f6) true) : Ev (fun k => pred_Normal.f k x.f0 x.f1 x.f2 x.f3 x.f4 x.f5 x.f6) (tp (nm false x)) :=
  Ev.congr (fun k => by rw [pred_Normal.f]) (Ev.bind hr (Ev.congr (fun k => by rw [if_pos rfl]) (Ev.bind (norm_ev x (nk_of_rs x hrs) hg hc false) (Ev.congr (f := fun _ => some (tp (nm false x))) (fun k => rfl) (Ev.now _)))))
theorem loop_ev {p n o : S25} (hp : Slim p) (hn : Slim n) (ho : Slim o) (cp : cnt p < 400000) (cn : cnt n < 400000) (co : cnt o < 400000) {r : Bool} (hf : r = true → FL 0 o)
    (e1 : ∀ t, ev t n = ev t p) (e2 : ∀ t, ev t o = !ev t p) {L : List S36} (hL : L.length ≤ 10) (m : Nat) :
    ∀ i : Nat, L.length - i = m → i ≤ L.length → Ev (fun k => columbariumlaw13_PredNormal.l0 k L r (i : Int) p.f0 p.f1 p.f2 p.f3 p.f4 p.f5 p.f6 n.f0 n.f1 n.f2 n.f3 n.f4 n.f5 n.f6 o.f0 o.f1 o.f2 o.f3 o.f4 o.f5 o.f6) true := by
  induction m with
  | zero => exact fun i hm hi => Ev.step (fun k => by rw [columbariumlaw13_PredNormal.l0, if_neg (by omega)]) (Ev.bind known_ev (Ev.now _))
  | succ m ihm =>
    intro i hm hi
    obtain ⟨t0, T, hT, ht⟩ := tame_ev (rd_T36 L (i : Int)).f0 (rd_T36 L (i : Int)).f1 (i : Int) (rd_T36 L (i : Int)).f2
    have hev : ∀ x : S25, Slim x → cnt x < 400000 → Ev (fun k => pred_Eval.f k x.f0 x.f1 x.f2 x.f3 x.f4 x.f5 x.f6 t0 (i : Int) T) (ev (t0, (i : Int), T) x) := fun x hg hc => eval_ev (t0, (i : Int), T) (by simp only; omega) x hg (by omega)
    have nxt := ihm (i + 1) (by omega) (by omega)
    refine Ev.step (fun k => by rw [columbariumlaw13_PredNormal.l0, if_pos (by omega), if_pos (by omega)]) (Ev.bind ht (Ev.bind (hev p hp cp) (Ev.bind (hev n hn cn) ?_)))
    rw [e1]
    refine Ev.congr (fun k => by rw [if_neg (by simp)]) (Ev.bind (hev p hp cp) (Ev.bind (hev o ho co) ?_))
    rw [e2]
    cases r with
    | true => exact Ev.congr (fun k => by rw [if_neg (by simp), if_pos rfl]) (Ev.bind (flat_ev o 0 (hf rfl) (by omega)) (Ev.congr (fun k => by rw [if_pos rfl, succ64 (by omega)]) nxt))
    | false => exact Ev.congr (fun k => by rw [if_neg (by simp), if_neg Bool.false_ne_true, succ64 (by omega)]) nxt

end Go.Proofs.Ytalpcnomfebdiaa.QPredNormal
namespace Go.Proofs.Ytalpcnomfebdiaa.Pure
open Go.RowKit Go.Proofs.Ytalpcnomfebdiaa.QPredNormal Go.Proofs.YtalpcnomfebdiaaW.PrintWords Go.Proofs.YtalpcnomfebdiaaW.PrintLast Go.Proofs.Ytalpcnomfebdiaa.Base

theorem PredNormal : columbariumlaw13_PredNormal.Pure := by
  intro a0 a1 a2 a3 a4 s l L _ _ _ _ _ _ _ _ hL
  obtain ⟨p, hp, gp, cp⟩ := cut_ev 5 (by decide) ⟨a0, a1, a2, a3, a4, s, l⟩
  have cb : cutB 5 = 1365 := by decide
  have hp' : Ev (fun k => columbariumkeep_Cut.f k a0 a1 a2 a3 a4 s l 5) (tp p) := hp
  obtain ⟨r, hr, hrs⟩ := right_ev p gp (by omega)
  refine Ev.rounds (g := fun k => columbariumlaw13_PredNormal.f k a0 a1 a2 a3 a4 s l L) (Ev.congr (fun k => by rw [columbariumlaw13_PredNormal.f]) (Ev.bind hp' (Ev.bind hr ?_)))
  cases r with
  | false =>
    simp only [tp, Bool.false_eq_true, if_false]
    refine Ev.bind (normal_self p gp (by omega) hr (fun h => absurd h (by decide))) ?_
    simp only [tp]
    refine Ev.bind (predSame_ev p gp (by omega)) ?_
    simp only [if_true]
    exact Ev.bind known_ev (Ev.now _)
  | true =>
    have rs := hrs rfl
    have fn := fl_nm p rs false
    have gn := nm_good p gp false
    have cn := nm_cnt p false
    have hq : Slim (nd 3 [p]) := ⟨by simp [nd], fun y hy => by rw [List.mem_singleton.1 hy]; exact gp⟩
    have cq : cnt (nd 3 [p]) < 3000 := by rw [cnt_eq]; simp only [nd, cntL]; omega
    obtain ⟨r2, hr2, hrs2⟩ := right_ev (nd 3 [p]) hq (by omega)
    obtain ⟨r3, hr3, _⟩ := right_ev (nm false p) gn (by omega)
    have ho : ∃ o : S25, Slim o ∧ cnt o < 400000 ∧ (r2 = true → FL 0 o) ∧ (∀ t, ev t o = !ev t p) ∧ Ev (fun k => pred_Normal.f k (nd 3 [p]).f0 (nd 3 [p]).f1 (nd 3 [p]).f2 (nd 3 [p]).f3 (nd 3 [p]).f4 (nd 3 [p]).f5 (nd 3 [p]).f6) (tp o) := by
      cases r2 with
      | false => exact ⟨nd 3 [p], hq, by omega, fun h => absurd h (by decide), fun t => by rw [ev_eq, if_neg (by simp [nd]), if_neg (by simp [nd]), if_pos (by simp [nd])]; simp only [nd, evN], normal_self _ hq (by omega) hr2 (fun h => absurd h (by decide))⟩
      | true =>
        have rs2 := hrs2 rfl
        have c2 := nm_cnt (nd 3 [p]) false
        refine ⟨nm false (nd 3 [p]), nm_good _ hq _, by omega, fun _ => fl_nm _ rs2 _, fun t => ?_, normal_true _ hq (by omega) rs2 hr2⟩
        rw [ev_nm t _ rs2, ev_eq, if_neg (by simp [nd]), if_neg (by simp [nd]), if_pos (by simp [nd])]
        simp only [nd, evN]
        simp
    obtain ⟨o, go, co, fo, eo, hno⟩ := ho
    have hr2' : Ev (fun k => pred_Right.f k 3 (⟨#[]⟩ : ByteArray) 0 0 (⟨#[]⟩ : ByteArray) ([] : List ByteArray) [⟨p.f0, p.f1, p.f2, p.f3, p.f4, p.f5, p.f6⟩]) r2 := by cases p; exact hr2
    have hno : Ev (fun k => pred_Normal.f k 3 (⟨#[]⟩ : ByteArray) 0 0 (⟨#[]⟩ : ByteArray) ([] : List ByteArray) [⟨p.f0, p.f1, p.f2, p.f3, p.f4, p.f5, p.f6⟩]) (tp o) := by cases p; exact hno
    obtain ⟨R, hR, hs⟩ := short_ev L (fun x hx => (hL x hx).2)
    simp only [tp, if_true]
    refine Ev.bind (normal_true p gp (by omega) rs hr) ?_
    simp only [tp]
    refine Ev.bind hno ?_
    refine Ev.bind (normal_self (nm false p) gn (by omega) hr3 (fun _ => fn)) ?_
    simp only [tp]
    refine Ev.bind (predSame_ev (nm false p) gn (by omega)) ?_
    simp only [if_true]
    refine Ev.bind (flat_ev (nm false p) 0 fn (by omega)) ?_
    refine Ev.step (fun k => by rw [columbariumlaw13_PredNormal.j0, if_neg (by decide)]) (Ev.bind hr2' (Ev.bind hs ?_))
    exact loop_ev gp gn go (by omega) (by omega) co fo (fun t => by rw [ev_nm t p rs]; simp) eo hR _ 0 rfl (Nat.zero_le _)

end Go.Proofs.Ytalpcnomfebdiaa.Pure
