/- The two disks side by side, plain: directories. -/
import Derived.Test.YtoninmgglcepmaaE11
import Derived.Test.YtoninmgglcepmaaD21
import Derived.Test.YtoninmgglcepmaaD22
import Derived.Test.YtoninmgglcepmaaE1
namespace Go.Proofs.Ytoninmgglcepmaa.Dk
open Go.ChangeMaps hiding rd
open RegD Go.RowKit Go.Proofs.YtoninmgglcepmaaW.PrintWords Go.Proofs.YtoninmgglcepmaaW.PrintLast Go.Proofs.YtoninmgglcepmaaW.PrintMore Mp QDiskPlays
set_option linter.unusedVariables false
set_option linter.unusedSimpArgs false
/-- What a name has in a directory of the document's. -/
def lookE : List S91 → ByteArray → Option Int
  | [], _ => none
  | e :: l, s => if e.f0 = s then some e.f1 else lookE l s
theorem findI_look (l : List S91) (s : ByteArray) : findI l s = (lookE l s).getD (-1) := by
  induction l with
  | nil => rfl
  | cons e l ih =>
    unfold findI lookE
    by_cases h : e.f0 = s
    · rw [if_pos h, if_pos h]; rfl
    · rw [if_neg h, if_neg h]; exact ih
theorem lookE_append (a b : List S91) (s : ByteArray) : lookE (a ++ b) s = (lookE a s).or (lookE b s) := by
  induction a with
  | nil => rfl
  | cons e a ih =>
    show (if e.f0 = s then some e.f1 else lookE (a ++ b) s) = Option.or (if e.f0 = s then some e.f1 else lookE a s) (lookE b s)
    by_cases h : e.f0 = s
    · rw [if_pos h, if_pos h]; rfl
    · rw [if_neg h, if_neg h]; exact ih
theorem lookE_none {l : List S91} {s : ByteArray} : lookE l s = none ↔ ∀ e ∈ l, e.f0 ≠ s := by
  induction l with
  | nil => simp [lookE]
  | cons e l ih =>
    unfold lookE
    by_cases h : e.f0 = s
    · simp [h]
    · simp [h, ih]
theorem lookE_mem {l : List S91} {s : ByteArray} {n : Int} (h : lookE l s = some n) : (⟨s, n⟩ : S91) ∈ l := by
  induction l with
  | nil => cases h
  | cons e l ih =>
    unfold lookE at h
    by_cases hc : e.f0 = s
    · rw [if_pos hc] at h
      injection h with h
      subst hc h
      exact List.mem_cons_self ..
    · rw [if_neg hc] at h
      exact List.mem_cons_of_mem _ (ih h)
theorem lookE_drop (l : List S91) (s t : ByteArray) : lookE (dropL l s) t = if s = t then none else lookE l t := by
  induction l with
  | nil => simp [dropL, lookE]
  | cons e l ih =>
    unfold dropL at ih ⊢
    by_cases h : e.f0 = s
    · rw [List.filter_cons_of_neg (by simpa using h), ih]
      by_cases hst : s = t
      · rw [if_pos hst, if_pos hst]
      · rw [if_neg hst, if_neg hst]
        conv => rhs; unfold lookE
        rw [if_neg (fun h2 => hst (h.symm.trans h2))]
    · rw [List.filter_cons_of_pos (by simpa using h)]
      conv => lhs; unfold lookE
      by_cases hst : s = t
      · rw [if_pos hst, if_neg (fun h2 => h (h2.trans hst.symm)), ih, if_pos hst]
      · rw [if_neg hst]
        conv => rhs; unfold lookE
        by_cases het : e.f0 = t
        · rw [if_pos het, if_pos het]
        · rw [if_neg het, if_neg het, ih, if_neg hst]
theorem lookE_put (l : List S91) (s : ByteArray) (g : Int) (t : ByteArray) : lookE (putL l s g) t = if s = t then some g else lookE l t := by
  have h0 : ∀ e ∈ dropL l s, e.f0 ≠ s := fun e he => by
    have := (List.mem_filter.1 he).2
    simpa using this
  have hsplit := List.takeWhile_append_dropWhile (p := lessB s) (l := dropL l s)
  unfold putL
  rw [lookE_append]
  by_cases hst : s = t
  · subst hst
    have h1 : lookE ((dropL l s).takeWhile (lessB s)) s = none := lookE_none.2 fun e he => h0 e (by
      rw [← hsplit]; exact List.mem_append_left _ he)
    rw [h1, if_pos rfl]
    show (lookE (⟨s, g⟩ :: _) s) = _
    unfold lookE
    rw [if_pos rfl]
  · rw [if_neg hst]
    have h1 : lookE (⟨s, g⟩ :: (dropL l s).dropWhile (lessB s)) t = lookE ((dropL l s).dropWhile (lessB s)) t := by
      conv => lhs; unfold lookE
      rw [if_neg hst]
    rw [h1, ← lookE_append, hsplit, lookE_drop, if_neg hst]
/-- Names rise. -/
def Ris (l : List S91) : Prop := l.Pairwise fun a b => Op.bytesLess a.f0.toList b.f0.toList = true
theorem Ris.drop {l : List S91} (h : Ris l) (s : ByteArray) : Ris (dropL l s) := List.Pairwise.sublist (List.filter_sublist) h
theorem less_iff (a b : List UInt8) : Op.bytesLess a b = true ↔ a < b := by rw [Go.Proofs.bytesLess_eq, decide_eq_true_eq]
theorem less_tri {a b : List UInt8} (h : ¬ Op.bytesLess a b = true) (hne : a ≠ b) : Op.bytesLess b a = true := by
  rw [less_iff] at h ⊢
  exact List.not_le.1 fun hle => hne (List.le_antisymm hle (List.not_lt.1 h))
theorem less_trans {a b c : List UInt8} (h : Op.bytesLess a b = true) (k : Op.bytesLess b c = true) : Op.bytesLess a c = true := by
  rw [less_iff] at *
  exact List.lt_trans h k
theorem mem_tw {α : Type} {p : α → Bool} {l : List α} {x : α} (h : x ∈ l.takeWhile p) : p x = true := by
  induction l with
  | nil => cases h
  | cons a l ih =>
    rw [List.takeWhile_cons] at h
    by_cases ha : p a = true
    · rw [if_pos ha] at h
      rcases List.mem_cons.1 h with rfl | h
      · exact ha
      · exact ih h
    · rw [if_neg ha] at h
      cases h
theorem Ris.put {l : List S91} (h : Ris l) (s : ByteArray) (g : Int) : Ris (putL l s g) := by
  have h0 : ∀ e ∈ dropL l s, e.f0 ≠ s := fun e he => by
    have := (List.mem_filter.1 he).2
    simpa using this
  have hd := h.drop s
  have hsplit := List.takeWhile_append_dropWhile (p := lessB s) (l := dropL l s)
  unfold Ris at hd ⊢
  unfold putL
  have hmT : ∀ e ∈ (dropL l s).takeWhile (lessB s), lessB s e = true := fun e he => mem_tw he
  have hmD : ∀ e ∈ (dropL l s).dropWhile (lessB s), Op.bytesLess s.toList e.f0.toList = true := by
    have hsub : ∀ e ∈ (dropL l s).dropWhile (lessB s), e ∈ dropL l s := fun e he => by rw [← hsplit]; exact List.mem_append_right _ he
    have hp : ((dropL l s).dropWhile (lessB s)).Pairwise fun a b => Op.bytesLess a.f0.toList b.f0.toList = true := List.Pairwise.sublist (List.dropWhile_sublist _) hd
    cases hx : (dropL l s).dropWhile (lessB s) with
    | nil => intro e he; cases he
    | cons x xs =>
      have hx0 : lessB s x = false := by
        have h1 := List.head?_dropWhile_not (lessB s) (dropL l s)
        rw [hx] at h1
        simpa using h1
      have hxs : Op.bytesLess s.toList x.f0.toList = true := less_tri (by unfold lessB at hx0; rw [hx0]; decide) (fun he => h0 x (hsub x (by rw [hx]; exact List.mem_cons_self ..)) (toList_inj he))
      rw [hx] at hp
      intro e he
      rcases List.mem_cons.1 he with rfl | he
      · exact hxs
      · exact less_trans hxs ((List.pairwise_cons.1 hp).1 e he)
  rw [← hsplit] at hd
  obtain ⟨p1, p2, p3⟩ := List.pairwise_append.1 hd
  refine List.pairwise_append.2 ⟨p1, List.pairwise_cons.2 ⟨fun e he => hmD e he, p2⟩, fun a ha b hb => ?_⟩
  rcases List.mem_cons.1 hb with rfl | hb
  · exact hmT a ha
  · exact p3 a ha b hb
theorem Ris.do_ {l : List S91} (h : Ris l) (c : S88) : Ris (doL l c) := by
  unfold doL
  split
  · exact h.put _ _
  · split
    · exact (h.drop _).put _ _
    · exact h.drop _
theorem sorted_ext : ∀ (A B : List (List UInt8)), A.Pairwise (· < ·) → B.Pairwise (· < ·) → (∀ x, x ∈ A ↔ x ∈ B) → A = B
  | [], [], _, _, _ => rfl
  | [], b :: B, _, _, h => absurd ((h b).2 (List.mem_cons_self ..)) (by simp)
  | a :: A, [], _, _, h => absurd ((h a).1 (List.mem_cons_self ..)) (by simp)
  | a :: A, b :: B, hA, hB, h => by
    obtain ⟨a1, a2⟩ := List.pairwise_cons.1 hA
    obtain ⟨b1, b2⟩ := List.pairwise_cons.1 hB
    have hab : a = b := by
      rcases List.mem_cons.1 ((h a).1 (List.mem_cons_self ..)) with e | e
      · exact e
      · rcases List.mem_cons.1 ((h b).2 (List.mem_cons_self ..)) with e2 | e2
        · exact e2.symm
        · exact absurd (a1 b e2) (List.lt_asymm (b1 a e))
    subst hab
    refine congrArg (a :: ·) (sorted_ext A B a2 b2 fun x => ⟨fun hx => ?_, fun hx => ?_⟩)
    · rcases List.mem_cons.1 ((h x).1 (List.mem_cons_of_mem _ hx)) with e | e
      · exact absurd (a1 x hx) (e ▸ List.lt_irrefl _)
      · exact e
    · rcases List.mem_cons.1 ((h x).2 (List.mem_cons_of_mem _ hx)) with e | e
      · exact absurd (b1 x hx) (e ▸ List.lt_irrefl _)
      · exact e
theorem sortL_eq {l : List ByteArray} (hn : l.Nodup) {E : List S91} (hr : Ris E) (hm : ∀ s, s ∈ l ↔ s ∈ namesR E) : sortL l = namesR E := by
  have hp := List.mergeSort_perm (l.map (·.data.toList)) fun x y => decide (x ≤ y)
  have hs : ((l.map (·.data.toList)).mergeSort fun x y => decide (x ≤ y)).Pairwise fun x y => decide (x ≤ y) = true :=
    List.pairwise_mergeSort (fun a b c h1 h2 => by simp only [decide_eq_true_eq] at *; exact List.le_trans h1 h2) (fun a b => by simp only [Bool.or_eq_true, decide_eq_true_eq]; exact List.le_total a b) _
  have hnd : ((l.map (·.data.toList)).mergeSort fun x y => decide (x ≤ y)).Nodup := hp.nodup_iff.2 (by
    rw [List.nodup_iff_pairwise_ne, List.pairwise_map]
    rw [List.nodup_iff_pairwise_ne] at hn
    exact hn.imp fun h he => h (congrArg strB he))
  have hlt : ((l.map (·.data.toList)).mergeSort fun x y => decide (x ≤ y)).Pairwise (· < ·) :=
    (hs.and (List.nodup_iff_pairwise_ne.1 hnd)).imp fun {a b} h => List.not_le.1 fun hle => h.2 (List.le_antisymm (of_decide_eq_true h.1) hle)
  have hE : (E.map fun e => e.f0.data.toList).Pairwise (· < ·) := by
    rw [List.pairwise_map]
    exact hr.imp fun {a b} h => by
      rw [less_iff, ByteArray.toList_eq, ByteArray.toList_eq] at h
      exact h
  have he := sorted_ext _ _ hlt hE fun x => by
    rw [hp.mem_iff]
    constructor
    · intro hx
      obtain ⟨t, ht, rfl⟩ := List.mem_map.1 hx
      obtain ⟨e, he, rfl⟩ := List.mem_map.1 ((hm t).1 ht)
      exact List.mem_map.2 ⟨e, he, rfl⟩
    · intro hx
      obtain ⟨e, he, rfl⟩ := List.mem_map.1 hx
      exact List.mem_map.2 ⟨e.f0, (hm e.f0).2 (List.mem_map.2 ⟨e, he, rfl⟩), rfl⟩
  rw [sortL, he, List.map_map]
  rfl
end Go.Proofs.Ytoninmgglcepmaa.Dk

namespace Go.Proofs.Ytoninmgglcepmaa.Dk
open Go.ChangeMaps hiding rd
open RegD Go.RowKit Go.Proofs.YtoninmgglcepmaaW.PrintWords Go.Proofs.YtoninmgglcepmaaW.PrintLast Go.Proofs.YtoninmgglcepmaaW.PrintMore Mp QDiskPlays
set_option linter.unusedVariables false
set_option linter.unusedSimpArgs false
structure DirRel (G : List Nat) (D : List (ByteArray × Nat)) (E : List S91) : Prop where
  ris : Ris E
  ok : ∀ e ∈ E, ∃ i : Nat, e.f1 = (i : Int) ∧ i < G.length
  look : ∀ s, getM D s = (lookE E s).bind fun n => G[n.toNat]?
theorem DirRel.nil (G : List Nat) : DirRel G [] [] := ⟨List.Pairwise.nil, fun _ h => (by cases h), fun _ => rfl⟩
section
variable {G : List Nat} {D : List (ByteArray × Nat)} {E : List S91} (h : DirRel G D E)
include h
theorem DirRel.at_ {s : ByteArray} {n : Int} (hl : lookE E s = some n) : ∃ i : Nat, n = (i : Int) ∧ i < G.length ∧ getM D s = G[i]? := by
  obtain ⟨i, hi, hil⟩ := h.ok _ (lookE_mem hl)
  simp only at hi
  subst hi
  exact ⟨i, rfl, hil, by rw [h.look, hl]; rfl⟩
theorem DirRel.find (s : ByteArray) : (getM D s = none ∧ findI E s < 0) ∨ ∃ (i : Nat) (g : Nat), findI E s = (i : Int) ∧ i < G.length ∧ G[i]? = some g ∧ getM D s = some g := by
  cases hl : lookE E s with
  | none => exact .inl ⟨by rw [h.look, hl]; rfl, by rw [findI_look, hl]; decide⟩
  | some n =>
    obtain ⟨i, rfl, hil, hg⟩ := h.at_ hl
    exact .inr ⟨i, G[i], by rw [findI_look, hl]; rfl, hil, List.getElem?_eq_getElem hil, by rw [hg, List.getElem?_eq_getElem hil]⟩
theorem DirRel.more (g : Nat) : DirRel (G ++ [g]) D E :=
  ⟨h.ris, fun e he => by
    obtain ⟨i, h1, h2⟩ := h.ok e he
    exact ⟨i, h1, by rw [List.length_append]; omega⟩, fun s => by
    cases hl : lookE E s with
    | none => rw [h.look, hl]; rfl
    | some n =>
      obtain ⟨i, rfl, hil, hg⟩ := h.at_ hl
      rw [hg]
      show _ = (G ++ [g])[i]?
      rw [List.getElem?_append_left hil]⟩
theorem DirRel.put (s : ByteArray) {i g : Nat} (hi : G[i]? = some g) : DirRel G (putM D s g) (putL E s (i : Int)) :=
  ⟨h.ris.put _ _, fun e he => by
    have hil : i < G.length := (List.getElem?_eq_some_iff.1 hi).1
    unfold putL at he
    rcases List.mem_append.1 he with he | he
    · exact h.ok e ((List.mem_filter.1 (List.takeWhile_sublist _ |>.subset he)).1)
    · rcases List.mem_cons.1 he with rfl | he
      · exact ⟨i, rfl, hil⟩
      · exact h.ok e ((List.mem_filter.1 (List.dropWhile_sublist _ |>.subset he)).1), fun t => by
    rw [getM_put, lookE_put]
    split
    · exact hi.symm
    · exact h.look t⟩
theorem DirRel.del (hn : (D.map (·.1)).Nodup) (s : ByteArray) : DirRel G (delM D s) (dropL E s) :=
  ⟨h.ris.drop _, fun e he => h.ok e ((List.mem_filter.1 he).1), fun t => by
    rw [getM_del hn, lookE_drop]
    split
    · rfl
    · exact h.look t⟩
theorem DirRel.names (s : ByteArray) : s ∈ D.map (·.1) ↔ s ∈ namesR E := by
  have h1 : getM D s = none ↔ lookE E s = none := by
    constructor
    · intro hg
      cases hl : lookE E s with
      | none => rfl
      | some n =>
        obtain ⟨i, rfl, hil, hg2⟩ := h.at_ hl
        rw [hg, List.getElem?_eq_getElem hil] at hg2
        cases hg2
    · intro hl
      rw [h.look, hl]
      rfl
  have h2 : lookE E s = none ↔ s ∉ namesR E := by
    rw [lookE_none]
    constructor
    · intro hh hm
      obtain ⟨e, he, rfl⟩ := List.mem_map.1 hm
      exact hh e he rfl
    · intro hh e he hs
      exact hh (List.mem_map.2 ⟨e, he, hs⟩)
  have h3 := getM_none (l := D) (s := s)
  constructor
  · intro hm
    exact Classical.byContradiction fun hc => (h3.1 (h1.2 (h2.2 hc))) hm
  · intro hm
    exact Classical.byContradiction fun hc => (h2.1 (h1.1 (h3.2 hc))) hm
end
/-- The two disks have come from the same n calls. -/
structure Rel (n : Nat) (G : List Nat) (d : DSt) (r : RSt) : Prop where
  len : r.log.length = d.chg.length
  pre : ∀ i, i ≤ d.chg.length → ∀ D, runM d.safe (d.chg.take i) = some D → DirRel G D (runL r.safe (r.log.take i))
  now : r.dir = runL r.safe r.log
  gl : G.length = r.fs.length
  nod : G.Nodup
  same : ∀ i (h : i < r.fs.length), ∃ f ∈ d.fs, G[i]? = some f.g ∧ f.bs = r.fs[i].bs ∧ f.safe = r.fs[i].safe
  q : r.quota = if d.quota < 0 then -1 else d.quota
  bnd : r.safe.length + r.log.length ≤ n
  fsl : r.fs.length ≤ n
section
variable {n m k : Nat} {G : List Nat} {d : DSt} {r : RSt} (h : Rel n G d r) (hi : Inv d m k)
include h
theorem Rel.dir_len : r.dir.length ≤ n := by
  have h1 := runL_len r.safe r.log
  have h2 := h.bnd
  rw [h.now]
  omega
theorem Rel.more : Rel (n + 1) G d r := ⟨h.len, h.pre, h.now, h.gl, h.nod, h.same, h.q, by have := h.bnd; omega, by have := h.fsl; omega⟩
include hi
theorem Rel.dir : DirRel G d.dir r.dir := by
  have h1 := h.pre d.chg.length (Nat.le_refl _) d.dir (by rw [List.take_length]; exact hi.now)
  rw [← h.len, List.take_length, ← h.now] at h1
  exact h1
theorem Rel.chg {G' : List Nat} {d' : DSt} {r' : RSt} {c : Chg} {c' : S88} {l2 : List (ByteArray × Nat)} (h2 : doM d.dir c = some l2) (hs : d'.safe = d.safe) (hc : d'.chg = d.chg ++ [c]) (hrs : r'.safe = r.safe) (hrl : r'.log = r.log ++ [c']) (hrd : r'.dir = doL r.dir c') (hG : ∀ D E, DirRel G D E → DirRel G' D E) (hD : DirRel G' l2 (doL r.dir c'))
    (gl : G'.length = r'.fs.length) (nod : G'.Nodup) (same : ∀ i (h : i < r'.fs.length), ∃ f ∈ d'.fs, G'[i]? = some f.g ∧ f.bs = r'.fs[i].bs ∧ f.safe = r'.fs[i].safe) (q : r'.quota = if d'.quota < 0 then -1 else d'.quota) (fsl : r'.fs.length ≤ n + 1) : Rel (n + 1) G' d' r' := by
  have hnow : doL r.dir c' = runL r'.safe r'.log := by
    rw [hrs, hrl, runL, List.foldl_append, h.now]
    rfl
  refine ⟨by rw [hrl, hc, List.length_append, List.length_append, h.len]; rfl, fun i hil D hD1 => ?_, by rw [hrd, hnow], gl, nod, same, q, by rw [hrs, hrl, List.length_append]; have := h.bnd; show _ + (_ + 1) ≤ _; omega, fsl⟩
  rw [hc, List.length_append] at hil
  rw [hs, hc] at hD1
  rw [hrs, hrl]
  rcases Nat.lt_or_ge d.chg.length i with h1 | h1
  · have e1 : i = (d.chg ++ [c]).length := by rw [List.length_append]; exact Nat.le_antisymm hil h1
    have e2 : i = (r.log ++ [c']).length := by rw [List.length_append, h.len]; exact Nat.le_antisymm hil h1
    rw [e1, List.take_length, runM_append, hi.now] at hD1
    have hD2 : (doM d.dir c).bind some = some D := hD1
    rw [h2] at hD2
    injection hD2 with hD2
    rw [e2, List.take_length, ← hrl, ← hrs, ← hnow, ← hD2]
    exact hD
  · rw [List.take_append_of_le_length h1] at hD1
    rw [List.take_append_of_le_length (by rw [h.len]; exact h1)]
    exact hG _ _ (h.pre i h1 D hD1)
omit hi
theorem Rel.upd (hg : ∀ f ∈ d.fs, ∀ f' ∈ d.fs, f.g = f'.g → f = f') {f : FS} (hf : f ∈ d.fs) {i : Nat} (hil : i < r.fs.length) (hG : G[i]? = some f.g) {u : FS → FS} (hu : ∀ x, (u x).g = x.g) {y : RF} (hb : (u f).bs = y.bs) (hs : (u f).safe = y.safe)
    {d' : DSt} (hd : d'.safe = d.safe ∧ d'.chg = d.chg ∧ d'.fs = updF d.fs f.g u) {r' : RSt} (hr : r'.safe = r.safe ∧ r'.log = r.log ∧ r'.dir = r.dir ∧ r'.fs = r.fs.set i y) (hq : r'.quota = if d'.quota < 0 then -1 else d'.quota) : Rel (n + 1) G d' r' := by
  obtain ⟨hd1, hd2, hd3⟩ := hd
  obtain ⟨hr1, hr2, hr3, hr4⟩ := hr
  have hset : r'.fs.length = r.fs.length := by rw [hr4, List.length_set]
  refine ⟨by rw [hr2, hd2]; exact h.len, fun j hj D hD => ?_, by rw [hr3, hr1, hr2]; exact h.now, h.gl.trans hset.symm, h.nod, fun j hj => ?_, hq, by rw [hr1, hr2]; have := h.bnd; omega, by rw [hset]; have := h.fsl; omega⟩
  · rw [hd2] at hj hD
    rw [hd1] at hD
    rw [hr1, hr2]
    exact h.pre j hj D hD
  · have hjl : j < r.fs.length := by omega
    have hget : r'.fs[j] = if i = j then y else r.fs[j] := by
      have : r'.fs[j]? = (r.fs.set i y)[j]? := by rw [hr4]
      rw [List.getElem?_eq_getElem hj, List.getElem?_eq_getElem (by rw [List.length_set]; exact hjl), List.getElem_set] at this
      injection this
    rw [hget, hd3]
    by_cases hij : i = j
    · subst hij
      rw [if_pos rfl]
      exact ⟨u f, List.mem_map.2 ⟨f, hf, if_pos rfl⟩, by rw [hu]; exact hG, hb, hs⟩
    · rw [if_neg hij]
      obtain ⟨f2, hf2, e1, e2, e3⟩ := h.same j hjl
      have hne : f2.g ≠ f.g := fun he => hij (by
        rw [← he, ← e1] at hG
        have hi1 := (List.getElem?_eq_some_iff.1 (hG.trans e1)).1
        exact (List.getElem?_inj hi1 h.nod).1 hG)
      exact ⟨f2, List.mem_map.2 ⟨f2, hf2, if_neg hne⟩, e1, e2, e3⟩
end
end Go.Proofs.Ytoninmgglcepmaa.Dk

namespace Go.Proofs.Ytoninmgglcepmaa.Dk
open Go.ChangeMaps hiding rd
open RegD Go.RowKit Go.Proofs.YtoninmgglcepmaaW.PrintWords Go.Proofs.YtoninmgglcepmaaW.PrintLast Go.Proofs.YtoninmgglcepmaaW.PrintMore Mp QDiskPlays
set_option linter.unusedVariables false
set_option linter.unusedSimpArgs false
theorem Rel.new (gd bd bs : Nat) (vch : Value) (w : World) : Rel 0 [] ⟨gd, bd, bs, vch, -1, [], [], [], []⟩ (newR w) :=
  ⟨rfl, fun i hi D hD => by
    have hD1 : runM [] (List.take i []) = some D := hD
    rw [List.take_nil] at hD1
    injection hD1 with hD1
    subst hD1
    show DirRel [] [] (runL [] (List.take i []))
    rw [List.take_nil]
    exact DirRel.nil _, rfl, rfl, List.nodup_nil, fun i hi => absurd hi (Nat.not_lt_zero _), rfl, Nat.le_refl _, Nat.le_refl _⟩
section
variable {n m k : Nat} {G : List Nat} {d : DSt} {r : RSt} (h : Rel n G d r) (hi : Inv d m k)
include h hi
/-- How a name is found. -/
theorem Rel.find (s : ByteArray) : ((findR d s).2 = remRE r s) ∧ (((findR d s).1 = none ∧ remRE r s ≠ 0) ∨ ∃ (i : Nat) (hil : i < r.fs.length) (f : FS), f ∈ d.fs ∧ badName s = false ∧ remRE r s = 0 ∧ (findR d s).1 = some f.g ∧ getM d.dir s = some f.g ∧ findI r.dir s = (i : Int) ∧ G[i]? = some f.g ∧ f.bs = r.fs[i].bs ∧ f.safe = r.fs[i].safe) := by
  unfold findR remRE
  cases hb : badName s with
  | true => exact ⟨rfl, .inl ⟨rfl, by rw [if_pos rfl]; decide⟩⟩
  | false =>
    rcases (h.dir hi).find s with ⟨hg, hf⟩ | ⟨i, g, hf, hil, hG, hg⟩
    · rw [hg, if_neg (by decide), if_neg (by decide), if_pos hf]
      exact ⟨rfl, .inl ⟨rfl, by decide⟩⟩
    · rw [hg, if_neg (by decide), if_neg (by decide), if_neg (by omega)]
      have hil2 : i < r.fs.length := h.gl ▸ hil
      obtain ⟨f, hfm, e1, e2, e3⟩ := h.same i hil2
      have hfg : g = f.g := by rw [hG] at e1; injection e1
      subst hfg
      exact ⟨rfl, .inr ⟨i, hil2, f, hfm, rfl, rfl, rfl, rfl, hf, hG, e2, e3⟩⟩
theorem Rel.ren_ (s t : ByteArray) : renE d s t = renRE r s t ∧ (renRE r s t ≠ 0 → ∀ d', Ren d s t d' → d' = d) ∧
    (renRE r s t = 0 → ∀ d', Ren d s t d' → ∀ v1 v2, Rel (n + 1) G d' { r with vd := v1, dir := doL r.dir ⟨2, s, t, findI r.dir s⟩, vl := v2, log := r.log ++ [⟨2, s, t, findI r.dir s⟩] }) := by
  obtain ⟨he, hc⟩ := h.find hi s
  have hE : renE d s t = renRE r s t := by
    unfold renE renRE
    cases hbt : badName t with
    | true => simp
    | false =>
      rw [if_neg (by decide), he]
      unfold remRE
      simp
  refine ⟨hE, fun hne d' hR => ?_, fun h0 d' hR v1 v2 => ?_⟩
  · rcases hR with ⟨_, rfl⟩ | ⟨hb, g, v1, hg, rfl⟩
    · rfl
    · exfalso
      rw [← hE] at hne
      unfold renE at hne
      rw [hb, if_neg (by decide), find_some hg] at hne
      exact hne rfl
  · rcases hR with ⟨hh, rfl⟩ | ⟨hb, g, w1, hg, rfl⟩
    · exfalso
      rw [← hE] at h0
      unfold renE at h0
      rcases hh with hh | hh
      · rw [if_pos hh] at h0; cases h0
      · split at h0
        · cases h0
        · exact find_none hh h0
    · rcases hc with ⟨hn, _⟩ | ⟨i, hil, f, hf, hbs, h1, h2, h3, h4, h5, h6, h7⟩
      · rw [hn] at hg; cases hg
      · rw [h2] at hg
        injection hg with hg
        subst hg
        have hk := hi.dir.keys
        refine h.chg hi (c := ⟨1, s, t, none⟩) (l2 := putM (delM d.dir s) t f.g) ?_ rfl rfl rfl rfl rfl (fun _ _ hD => hD) ?_ h.gl h.nod h.same h.q (Nat.le_succ_of_le h.fsl)
        · unfold doM
          rw [if_neg (show ¬ (1 : Int) = 0 by decide), if_pos rfl, h3]
          rfl
        · rw [h4]
          show DirRel G _ (doL r.dir ⟨2, s, t, (i : Int)⟩)
          rw [doL, if_neg (show ¬ (2 : Int) = 1 by decide), if_pos rfl]
          exact ((h.dir hi).del hk s).put t h5
theorem Rel.rem_ (s : ByteArray) : (findR d s).2 = remRE r s ∧ (remRE r s ≠ 0 → ∀ d', Rem d s d' → d' = d) ∧
    (remRE r s = 0 → ∀ d', Rem d s d' → ∀ v1 v2, Rel (n + 1) G d' { r with vd := v1, dir := doL r.dir ⟨3, s, ByteArray.empty, findI r.dir s⟩, vl := v2, log := r.log ++ [⟨3, s, ByteArray.empty, findI r.dir s⟩] }) := by
  obtain ⟨he, hc⟩ := h.find hi s
  refine ⟨he, fun hne d' hR => ?_, fun h0 d' hR v1 v2 => ?_⟩
  · rcases hR with ⟨_, rfl⟩ | ⟨g, v1, hg, rfl⟩
    · rfl
    · exact absurd (he ▸ find_some hg) hne
  · rcases hR with ⟨hh, rfl⟩ | ⟨g, w1, hg, rfl⟩
    · exact absurd (he.trans h0) (find_none hh)
    · refine h.chg hi (c := ⟨2, s, ByteArray.empty, none⟩) (l2 := delM d.dir s) ?_ rfl rfl rfl rfl rfl (fun _ _ hD => hD) ?_ h.gl h.nod h.same h.q (Nat.le_succ_of_le h.fsl)
      · unfold doM
        rw [if_neg (show ¬ (2 : Int) = 0 by decide), if_neg (show ¬ (2 : Int) = 1 by decide), if_pos rfl]
      · rw [doL, if_neg (show ¬ (3 : Int) = 1 by decide), if_neg (show ¬ (3 : Int) = 2 by decide)]
        exact (h.dir hi).del hi.dir.keys s
theorem Rel.sync_ (hg : ∀ f ∈ d.fs, ∀ f' ∈ d.fs, f.g = f'.g → f = f') (s : ByteArray) : (findR d s).2 = remRE r s ∧ (remRE r s ≠ 0 → ∀ d', Syn d s d' → d' = d) ∧
    (remRE r s = 0 → ∃ (i : Nat) (hil : i < r.fs.length), badName s = false ∧ findI r.dir s = (i : Int) ∧ ∀ d', Syn d s d' → Rel (n + 1) G d' { r with fs := r.fs.set i { r.fs[i] with safe := (r.fs[i].bs.length : Int) } }) := by
  obtain ⟨he, hc⟩ := h.find hi s
  refine ⟨he, fun hne d' hR => ?_, fun h0 => ?_⟩
  · rcases hR with ⟨_, rfl⟩ | ⟨f, hf, hg, rfl⟩
    · rfl
    · exact absurd (he ▸ find_some hg) hne
  · rcases hc with ⟨_, hne⟩ | ⟨i, hil, f, hf, hbs, h1, h2, h3, h4, h5, h6, h7⟩
    · exact absurd h0 hne
    · refine ⟨i, hil, hbs, h4, fun d' hR => ?_⟩
      rcases hR with ⟨hh, rfl⟩ | ⟨f2, hf2, hg2, rfl⟩
      · rw [h2] at hh; cases hh
      · have hff : f2 = f := hg f2 hf2 f hf (by rw [h2] at hg2; injection hg2 with hg2; exact hg2.symm)
        subst hff
        exact h.upd (d' := { d with fs := updF d.fs f2.g fun x => { x with v := f2.v, bs := f2.bs, safe := (f2.bs.length : Int) } }) (r' := { r with fs := r.fs.set i { r.fs[i] with safe := (r.fs[i].bs.length : Int) } }) hg hf hil h5 (u := fun x => { x with v := f2.v, bs := f2.bs, safe := (f2.bs.length : Int) }) (y := { r.fs[i] with safe := (r.fs[i].bs.length : Int) }) (fun _ => rfl) h6 (by show (f2.bs.length : Int) = _; rw [h6]) ⟨rfl, rfl, rfl⟩ ⟨rfl, rfl, rfl, rfl⟩ h.q
theorem Rel.syncDir_ (nb : Nat) (v : Value) : Rel (n + 1) G (syncD d nb) (syncR r v) := by
  have hd := h.dir hi
  have hl := h.dir_len
  refine ⟨rfl, fun i hil D hD => ?_, rfl, h.gl, h.nod, h.same, h.q, by show r.dir.length + 0 ≤ _; omega, Nat.le_succ_of_le h.fsl⟩
  have hD1 : runM d.dir (List.take i []) = some D := hD
  rw [List.take_nil] at hD1
  injection hD1 with hD1
  subst hD1
  show DirRel G _ (runL r.dir (List.take i []))
  rw [List.take_nil]
  exact hd
omit h hi in
theorem sumR_bound {fs : List RF} {B : Nat} {l : List S91} (hb : ∀ e ∈ l, lenAt fs e.f1 ≤ B) : sumR fs l ≤ l.length * B := by
  induction l with
  | nil => simp [sumR]
  | cons e l ih =>
    have h1 := ih (fun x hx => hb x (List.mem_cons_of_mem _ hx))
    have h2 := hb e (List.mem_cons_self ..)
    rw [sumR, List.map_cons, List.sum_cons, List.length_cons, Nat.succ_mul]
    unfold sumR at h1
    omega
theorem Rel.okE : ∀ e ∈ r.dir, ∃ j : Nat, e.f1 = (j : Int) ∧ j < r.fs.length := fun e he => by
  obtain ⟨i, h1, h2⟩ := (h.dir hi).ok e he
  exact ⟨i, h1, h.gl ▸ h2⟩
theorem Rel.len_le : ∀ i (h : i < r.fs.length), r.fs[i].bs.length ≤ m * k := fun i hil => by
  obtain ⟨f, hf, _, e2, _⟩ := h.same i hil
  rw [← e2]
  exact hi.len_le f hf
theorem Rel.appOk (hn : n ≤ 60) (hmk : m * k ≤ 3600) {b : Nat} (hb : b ≤ 60) : AppOkR r b := by
  have h1 := h.dir_len
  have h2 := h.bnd
  have h3 := h.fsl
  have h4 : sumR r.fs r.dir ≤ r.dir.length * 3600 := sumR_bound fun e he => by
    obtain ⟨j, hj, hjl⟩ := h.okE hi e he
    have : lenAt r.fs e.f1 = r.fs[j].bs.length := by rw [lenAt, hj, Int.toNat_natCast, List.getD_eq_getElem?_getD, List.getElem?_eq_getElem hjl]; rfl
    rw [this]
    exact Nat.le_trans (h.len_le hi j hjl) hmk
  have h5 : r.dir.length * 3600 ≤ 60 * 3600 := Nat.mul_le_mul_right _ (by omega)
  exact ⟨by omega, by omega, by omega, h.okE hi, by omega, by
    have := hi.quota
    rw [h.q]
    split <;> omega⟩
theorem Rel.app_ (hg : ∀ f ∈ d.fs, ∀ f' ∈ d.fs, f.g = f'.g → f = f') (hn : n ≤ 60) (hm : m ≤ 60) (hmk : m * k ≤ 3600) (s : ByteArray) {b : List Int} (hb : b.length ≤ 60) : appE d s b.length = appRE r s b.length ∧ (appRE r s b.length ≠ 0 → ∀ d', App d s b d' → d' = d) ∧
    (appRE r s b.length = 0 → badName s = false ∧ ¬ (0 ≤ r.quota ∧ r.quota < (b.length : Int)) ∧
      ((findI r.dir s < 0 ∧ ∀ d', App d s b d' → ∀ A c vf vd vl, ∃ g, Rel (n + 1) (G ++ [g]) d' { r with vf := vf, fs := r.fs ++ [⟨A, c, b, 0⟩], vd := vd, dir := doL r.dir ⟨1, ByteArray.empty, s, (r.fs.length : Int)⟩, vl := vl, log := r.log ++ [⟨1, ByteArray.empty, s, (r.fs.length : Int)⟩], quota := rQ r.quota b.length }) ∨
       (∃ (i : Nat) (hil : i < r.fs.length), findI r.dir s = (i : Int) ∧ r.fs[i].bs.length ≤ 1000000 ∧ ∀ d', App d s b d' → ∀ A c, Rel (n + 1) G d' { r with fs := r.fs.set i ⟨A, c, r.fs[i].bs ++ b, r.fs[i].safe⟩, quota := rQ r.quota b.length }))) := by
  have hl := hi.dir.len
  have hsum : sumL d d.dir ≤ 60 * 3600 := by
    have h1 := hi.sum
    have h2 : m * (m * k) ≤ 60 * 3600 := Nat.mul_le_mul hm hmk
    omega
  have hqq : (0 ≤ d.quota ∧ d.quota < (b.length : Int)) ↔ (0 ≤ r.quota ∧ r.quota < (b.length : Int)) := by
    rw [h.q]
    split <;> omega
  have hE : appE d s b.length = appRE r s b.length := by
    unfold appE appRE
    cases hbn : badName s with
    | true => rfl
    | false =>
      have e1 : ¬ (false = true) := by decide
      rw [if_neg e1, if_neg e1, if_neg (show ¬ (getM d.dir s = none ∧ 4096 ≤ d.dir.length) from fun hh => by have := hh.2; omega)]
      by_cases hq : 0 ≤ r.quota ∧ r.quota < (b.length : Int)
      · rw [if_pos (.inr (hqq.2 hq)), if_pos hq]
      · rw [if_neg hq, if_neg (by rw [hqq]; rintro (h1 | h1); · omega
                                  · exact hq h1)]
  have hQ : ¬ (0 ≤ r.quota ∧ r.quota < (b.length : Int)) → rQ r.quota b.length = if newQ d b.length < 0 then -1 else newQ d b.length := fun hq => by
    unfold rQ newQ
    rw [h.q] at hq ⊢
    by_cases h1 : d.quota < 0
    · have h2 : ¬ 0 ≤ d.quota := by omega
      simp only [if_pos h1, if_neg h2]
      rfl
    · rw [if_neg h1] at hq ⊢
      have h2 : 0 ≤ d.quota := by omega
      simp only [if_pos h2]
      rw [if_neg (by omega)]
  refine ⟨hE, fun hne d' hR => ?_, fun h0 => ?_⟩
  · rcases hR with ⟨_, rfl⟩ | ⟨he, _⟩ | ⟨he, _⟩
    · rfl
    · exact absurd (hE ▸ he) hne
    · exact absurd (hE ▸ he) hne
  · have hbn := appE_good (hE.trans h0)
    have hq : ¬ (0 ≤ r.quota ∧ r.quota < (b.length : Int)) := fun hc => by
      unfold appRE at h0
      rw [hbn, if_neg (by decide), if_pos hc] at h0
      cases h0
    refine ⟨hbn, hq, ?_⟩
    rcases (h.dir hi).find s with ⟨hgn, hf⟩ | ⟨i, g, hf, hil, hG, hgs⟩
    · refine .inl ⟨hf, fun d' hR A c vf vd vl => ?_⟩
      rcases hR with ⟨he, _⟩ | ⟨_, f, v1, hf1, hf2, _⟩ | ⟨_, hnn, g, v1, vch1, hfg, rfl⟩
      · exact absurd (hE.trans h0) he
      · rw [hgn] at hf2; cases hf2
      · refine ⟨g, h.chg hi (c := ⟨0, s, ⟨#[]⟩, some g⟩) (l2 := putM d.dir s g) rfl rfl rfl rfl rfl rfl (fun _ _ hD => hD.more g) ?_ (by rw [List.length_append, List.length_append, h.gl]; rfl) ?_ (fun i hil => ?_) (hQ hq) (by rw [List.length_append]; exact Nat.succ_le_succ h.fsl)⟩
        · rw [doL, if_pos rfl]
          exact ((h.dir hi).more g).put s (by rw [← h.gl, List.getElem?_append_right (Nat.le_refl _)]; simp)
        · rw [List.nodup_append]
          refine ⟨h.nod, by simp, fun a ha b hb => ?_⟩
          obtain rfl := List.mem_singleton.1 hb
          rintro rfl
          obtain ⟨i, hil, rfl⟩ := List.mem_iff_getElem.1 ha
          obtain ⟨f, hfm, e1, _⟩ := h.same i (h.gl ▸ hil)
          rw [List.getElem?_eq_getElem hil] at e1
          injection e1 with e1
          exact hfg f hfm e1.symm
        · have hil2 : i < (r.fs ++ [(⟨A, c, b, 0⟩ : RF)]).length := hil
          show ∃ f ∈ d.fs ++ [(⟨g, v1, b, 0⟩ : FS)], (G ++ [g])[i]? = some f.g ∧ f.bs = (r.fs ++ [(⟨A, c, b, 0⟩ : RF)])[i].bs ∧ f.safe = (r.fs ++ [(⟨A, c, b, 0⟩ : RF)])[i].safe
          by_cases h1 : i < r.fs.length
          · obtain ⟨f, hfm, e1, e2, e3⟩ := h.same i h1
            rw [List.getElem_append_left h1, List.getElem?_append_left (h.gl ▸ h1)]
            exact ⟨f, List.mem_append_left _ hfm, e1, e2, e3⟩
          · have h2 : i = r.fs.length := by rw [List.length_append] at hil2; simp at hil2; omega
            subst h2
            exact ⟨⟨g, v1, b, 0⟩, List.mem_append_right _ (List.mem_singleton.2 rfl), by rw [← h.gl, List.getElem?_append_right (Nat.le_refl _)]; simp, by simp, by simp⟩
    · have hil2 : i < r.fs.length := h.gl ▸ hil
      obtain ⟨f, hfm, e1, e2, e3⟩ := h.same i hil2
      have hfg : g = f.g := by rw [hG] at e1; injection e1
      subst hfg
      refine .inr ⟨i, hil2, hf, by have := h.len_le hi i hil2; omega, fun d' hR A c => ?_⟩
      rcases hR with ⟨he, _⟩ | ⟨_, f2, v1, hf1, hf2, rfl⟩ | ⟨_, hnn, _⟩
      · exact absurd (hE.trans h0) he
      · have hff : f2 = f := hg f2 hf1 f hfm (by rw [hgs] at hf2; injection hf2 with hf2; exact hf2.symm)
        subst hff
        exact h.upd (d' := growF d f2 b v1) (r' := { r with fs := r.fs.set i ⟨A, c, r.fs[i].bs ++ b, r.fs[i].safe⟩, quota := rQ r.quota b.length }) hg hfm hil2 hG (u := fun x => { x with v := v1, bs := f2.bs ++ b, safe := f2.safe }) (y := ⟨A, c, r.fs[i].bs ++ b, r.fs[i].safe⟩) (fun _ => rfl) (by show f2.bs ++ b = _; rw [e2]) e3 ⟨rfl, rfl, rfl⟩ ⟨rfl, rfl, rfl, rfl⟩ (hQ hq)
      · rw [hgs] at hnn; cases hnn
omit hi
theorem Rel.quota_ (q : Int) : Rel (n + 1) G { d with quota := q } { r with quota := if q < 0 then -1 else q } :=
  ⟨h.len, h.pre, h.now, h.gl, h.nod, h.same, rfl, Nat.le_succ_of_le h.bnd, Nat.le_succ_of_le h.fsl⟩
end
end Go.Proofs.Ytoninmgglcepmaa.Dk

namespace Go.Proofs.Ytoninmgglcepmaa.Dk
open Go.ChangeMaps hiding rd
open RegD Go.RowKit Go.Proofs.YtoninmgglcepmaaW.PrintWords Go.Proofs.YtoninmgglcepmaaW.PrintLast Go.Proofs.YtoninmgglcepmaaW.PrintMore Mp QDiskPlays
set_option linter.unusedVariables false
set_option linter.unusedSimpArgs false
theorem vals_inj {l : List (ByteArray × Nat)} (hn : (l.map (·.2)).Nodup) {s t : ByteArray} {g : Nat} (h1 : (s, g) ∈ l) (h2 : (t, g) ∈ l) : s = t := by
  induction l with
  | nil => cases h1
  | cons q l ih =>
    rw [List.map_cons, List.nodup_cons] at hn
    rcases List.mem_cons.1 h1 with e1 | e1 <;> rcases List.mem_cons.1 h2 with e2 | e2
    · have := e1.trans e2.symm
      injection this
    · exact absurd (List.mem_map.2 ⟨_, e2, by rw [← e1]⟩) hn.1
    · exact absurd (List.mem_map.2 ⟨_, e1, by rw [← e2]⟩) hn.1
    · exact ih hn.2 e1 e2
theorem Ris.ne {E : List S91} (h : Ris E) : E.Pairwise fun a b => a.f0 ≠ b.f0 := h.imp fun {a b} hab he => by
  rw [less_iff, he] at hab
  exact List.lt_irrefl _ hab
theorem look_of_mem {E : List S91} (h : E.Pairwise fun a b => a.f0 ≠ b.f0) {e : S91} (he : e ∈ E) : lookE E e.f0 = some e.f1 := by
  induction E with
  | nil => cases he
  | cons a E ih =>
    obtain ⟨h1, h2⟩ := List.pairwise_cons.1 h
    unfold lookE
    rcases List.mem_cons.1 he with rfl | he
    · rw [if_pos rfl]
    · rw [if_neg (h1 e he), ih h2 he]
theorem look_now (E : List S91) (s : ByteArray) : ∀ k : Nat, (lookE E s = none → lookE (E.mapIdx fun j e => (⟨e.f0, ((k + j : Nat) : Int)⟩ : S91)) s = none) ∧
    (∀ n, lookE E s = some n → ∃ (j : Nat) (hj : j < E.length), lookE (E.mapIdx fun j e => (⟨e.f0, ((k + j : Nat) : Int)⟩ : S91)) s = some ((k + j : Nat) : Int) ∧ E[j].f1 = n) := by
  induction E with
  | nil => exact fun k => ⟨fun _ => rfl, fun n h => by cases h⟩
  | cons e E ih =>
    intro k
    rw [List.mapIdx_cons]
    have hf : (fun (i : Nat) (x : S91) => (⟨x.f0, ((k + (i + 1) : Nat) : Int)⟩ : S91)) = fun i x => ⟨x.f0, ((k + 1 + i : Nat) : Int)⟩ := by
      funext i x
      rw [show k + (i + 1) = k + 1 + i from by omega]
    obtain ⟨i1, i2⟩ := ih (k + 1)
    constructor
    · intro h
      unfold lookE at h ⊢
      by_cases hc : e.f0 = s
      · rw [if_pos hc] at h; cases h
      · rw [if_neg hc] at h
        rw [if_neg hc, hf]
        exact i1 h
    · intro n h
      unfold lookE at h
      by_cases hc : e.f0 = s
      · rw [if_pos hc] at h
        injection h with h
        refine ⟨0, Nat.succ_pos _, ?_, h⟩
        unfold lookE
        rw [if_pos hc]
      · rw [if_neg hc] at h
        obtain ⟨j, hj, h1, h2⟩ := i2 n h
        refine ⟨j + 1, Nat.succ_lt_succ hj, ?_, h2⟩
        unfold lookE
        rw [if_neg hc, hf, h1, show k + (j + 1) = k + 1 + j from by omega]
theorem nowL_names (E : List S91) : namesR (nowL E) = namesR E := by
  unfold namesR nowL
  refine List.ext_getElem (by simp) fun i h1 h2 => ?_
  simp
theorem Ris.iff (E : List S91) : Ris E ↔ (namesR E).Pairwise fun a b => Op.bytesLess a.toList b.toList = true := by
  rw [namesR, List.pairwise_map]
  rfl
def crG (G : List Nat) (E : List S91) : List Nat := E.map fun e => G.getD e.f1.toNat 0
section
variable {G : List Nat} {D : List (ByteArray × Nat)} {E : List S91} (h : DirRel G D E)
include h
theorem DirRel.crG_at {j : Nat} (hj : j < E.length) : ∃ (i g : Nat), E[j].f1 = (i : Int) ∧ G[i]? = some g ∧ (crG G E)[j]? = some g ∧ getM D E[j].f0 = some g := by
  obtain ⟨i, hi, hil⟩ := h.ok _ (List.getElem_mem hj)
  refine ⟨i, G[i], hi, List.getElem?_eq_getElem hil, ?_, ?_⟩
  · rw [crG, List.getElem?_map, List.getElem?_eq_getElem hj]
    show some (G.getD E[j].f1.toNat 0) = _
    rw [hi, Int.toNat_natCast, List.getD_eq_getElem?_getD, List.getElem?_eq_getElem hil]
    rfl
  · rw [h.look, look_of_mem h.ris.ne (List.getElem_mem hj), hi]
    show G[i]? = _
    exact List.getElem?_eq_getElem hil
theorem DirRel.crash : DirRel (crG G E) D (nowL E) := by
  refine ⟨by rw [Ris.iff, nowL_names, ← Ris.iff]; exact h.ris, fun e he => ?_, fun s => ?_⟩
  · obtain ⟨j, hj, rfl⟩ := List.mem_iff_getElem.1 he
    have hj2 := hj
    rw [nowL_len] at hj2
    exact ⟨j, by simp [nowL], by rw [crG, List.length_map]; exact hj2⟩
  · obtain ⟨l1, l2⟩ := look_now E s 0
    have hnow : nowL E = E.mapIdx fun j e => (⟨e.f0, ((0 + j : Nat) : Int)⟩ : S91) := by
      unfold nowL
      congr 1
      funext j e
      rw [Nat.zero_add]
    rw [h.look, hnow]
    cases hl : lookE E s with
    | none => rw [l1 hl]; rfl
    | some n =>
      obtain ⟨j, hj, h1, h2⟩ := l2 n hl
      rw [h1]
      obtain ⟨i, g, hi, hG, hc, _⟩ := h.crG_at hj
      show G[n.toNat]? = (crG G E)[(((0 + j : Nat) : Int)).toNat]?
      rw [Int.toNat_natCast, Nat.zero_add, hc, ← h2, hi, Int.toNat_natCast, hG]
theorem DirRel.crG_nodup (hv : (D.map (·.2)).Nodup) : (crG G E).Nodup := by
  rw [List.nodup_iff_pairwise_ne, crG, List.pairwise_map]
  refine List.Pairwise.imp_of_mem ?_ h.ris.ne
  intro a b ha hb hab he
  obtain ⟨j, hj, rfl⟩ := List.mem_iff_getElem.1 ha
  obtain ⟨j2, hj2, rfl⟩ := List.mem_iff_getElem.1 hb
  obtain ⟨i, g, hi, hG, hc, hm⟩ := h.crG_at hj
  obtain ⟨i2, g2, hi2, hG2, hc2, hm2⟩ := h.crG_at hj2
  rw [hi, hi2, Int.toNat_natCast, Int.toNat_natCast, List.getD_eq_getElem?_getD, List.getD_eq_getElem?_getD, hG, hG2] at he
  have he2 : g = g2 := he
  subst he2
  exact hab (vals_inj hv (getM_mem hm) (getM_mem hm2))
end
section
variable {n m k : Nat} {G : List Nat} {d : DSt} {r : RSt} (h : Rel n G d r) (hi : Inv d m k)
include h hi
theorem Rel.list_ : sortL (d.dir.map (·.1)) = namesR r.dir := sortL_eq hi.dir.keys (h.dir hi).ris (h.dir hi).names
theorem Rel.turn_ (hg : ∀ f ∈ d.fs, ∀ f' ∈ d.fs, f.g = f'.g → f = f') (s : ByteArray) : (getM d.dir s = none ∧ findI r.dir s < 0) ∨
    ∃ (i : Nat) (hil : i < r.fs.length) (f : FS), f ∈ d.fs ∧ getM d.dir s = some f.g ∧ findI r.dir s = (i : Int) ∧ f.bs = r.fs[i].bs ∧ r.fs[i].bs.length ≤ m * k ∧
      ∀ (a : Nat) (v : Int) A c, Rel (n + 1) G (setF d f a v) { r with fs := r.fs.set i ⟨A, c, r.fs[i].bs.set a v, r.fs[i].safe⟩ } := by
  rcases (h.dir hi).find s with ⟨hgn, hf⟩ | ⟨i, g, hf, hil, hG, hgs⟩
  · exact .inl ⟨hgn, hf⟩
  · have hil2 : i < r.fs.length := h.gl ▸ hil
    obtain ⟨f, hfm, e1, e2, e3⟩ := h.same i hil2
    have hfg : g = f.g := by rw [hG] at e1; injection e1
    subst hfg
    refine .inr ⟨i, hil2, f, hfm, hgs, hf, e2, h.len_le hi i hil2, fun a v A c => ?_⟩
    exact h.upd (d' := setF d f a v) (r' := { r with fs := r.fs.set i ⟨A, c, r.fs[i].bs.set a v, r.fs[i].safe⟩ }) hg hfm hil2 hG (u := fun y => { y with v := f.v, bs := f.bs.set a v, safe := f.safe }) (y := ⟨A, c, r.fs[i].bs.set a v, r.fs[i].safe⟩) (fun _ => rfl) (by show f.bs.set a v = _; rw [e2]) e3 ⟨rfl, rfl, rfl⟩ ⟨rfl, rfl, rfl, rfl⟩ h.q
theorem Rel.crash_ {c q nb1 nb2 : Nat} (hc : c ≤ d.chg.length) {dirP : List (ByteArray × Nat)} (hd : runM d.safe (d.chg.take c) = some dirP) (hv : GoodL d.fs m dirP) {E : List S91} (hE : E = runL r.safe (r.log.take c)) {F : List RF} (hF : CrOk q r.fs E F) (gr : Nat) (vf vd vs vl : Value) :
    Rel (n + 1) (crG G E) (crashD d dirP q nb1 nb2) ⟨gr, vf, vd, vs, vl, F, nowL E, nowL E, [], -1⟩ := by
  have hD : DirRel G dirP E := hE ▸ h.pre c hc dirP hd
  have hlen : E.length ≤ n := by
    have h1 := runL_len r.safe (r.log.take c)
    have h2 := h.bnd
    rw [hE]
    rw [List.length_take] at h1
    omega
  refine ⟨rfl, fun i hil D hD1 => ?_, rfl, by rw [crG, List.length_map]; exact hF.len.symm, hD.crG_nodup hv.vals, fun j hj => ?_, rfl, by show (nowL E).length + 0 ≤ _; rw [nowL_len]; omega, by show F.length ≤ _; rw [hF.len]; omega⟩
  · have hD2 : runM dirP (List.take i []) = some D := hD1
    rw [List.take_nil] at hD2
    injection hD2 with hD2
    subst hD2
    show DirRel _ _ (runL (nowL E) (List.take i []))
    rw [List.take_nil]
    exact hD.crash
  · have hjF : j < F.length := hj
    have hjE : j < E.length := hF.len ▸ hjF
    obtain ⟨i, g, hi1, hG, hcr, hm⟩ := hD.crG_at hjE
    have hil : i < r.fs.length := h.gl ▸ (List.getElem?_eq_some_iff.1 hG).1
    obtain ⟨f, hfm, e1, e2, e3⟩ := h.same i hil
    have hfg : g = f.g := by rw [hG] at e1; injection e1
    subst hfg
    have hFj : (F[j].bs, F[j].safe) = (rcB q (fAt r.fs E[j].f1), ((rcB q (fAt r.fs E[j].f1)).length : Int)) := by
      have h1 : (F.map fun f => (f.bs, f.safe))[j]? = (E.map fun e => (rcB q (fAt r.fs e.f1), ((rcB q (fAt r.fs e.f1)).length : Int)))[j]? := by rw [hF]
      rw [List.getElem?_map, List.getElem?_map, List.getElem?_eq_getElem hjF, List.getElem?_eq_getElem hjE] at h1
      injection h1
    rw [fAt_eq hi1 hil] at hFj
    injection hFj with b1 b2
    have hcb : crB q f = rcB q r.fs[i] := by
      show crB q f = crB q ⟨0, .slice none 0 0, r.fs[i].bs, r.fs[i].safe⟩
      rw [← e2, ← e3]
      rfl
    have hsf := hi.sf f hfm
    have hcs := (crF_sf (q := q) (f := f) ⟨hsf.1, hsf.2.1⟩).2.1
    refine ⟨crF q f, List.mem_map.2 ⟨f, hfm, if_pos (List.mem_map.2 ⟨_, getM_mem hm, rfl⟩)⟩, hcr, hcb.trans b1.symm, ?_⟩
    show (crF q f).safe = F[j].safe
    rw [hcs, b2]
    show ((crB q f).length : Int) = _
    rw [hcb]
end
end Go.Proofs.Ytoninmgglcepmaa.Dk

namespace Go.Proofs.Ytoninmgglcepmaa.Dk
open Go.ChangeMaps hiding rd
open RegD Go.RowKit Go.Proofs.YtoninmgglcepmaaW.PrintWords Go.Proofs.YtoninmgglcepmaaW.PrintLast Go.Proofs.YtoninmgglcepmaaW.PrintMore Mp QDiskPlays
attribute [local go_sem] max2_int min2_int max_two min_two max_three min_three max_four min_four
set_option linter.unusedVariables false
set_option linter.unusedSimpArgs false
/-- Both disks, all new since W. -/
structure Two (W w : World) (n : Nat) (G : List Nat) (d : DSt) (r : RSt) : Prop where
  st : St W w d
  ra : RAt w r
  iv : Inv d n 60
  rl : Rel n G d r
  off : ∀ k, RFoot r k → Off w d k
  own : ∀ k, RFoot r k → W.heap.size ≤ k
/-- A block beside both. -/
def Bes (w : World) (d : DSt) (r : RSt) (k : Nat) : Prop := k < w.heap.size ∧ ¬ Foot d k ∧ ¬ RFoot r k
def Stp (w : World) (d : DSt) (r : RSt) (w' : World) (d' : DSt) (r' : RSt) : Prop := ∀ k, Bes w d r k → Bes w' d' r' k ∧ w'.heap[k]? = w.heap[k]?
theorem Stp.refl (w : World) (d : DSt) (r : RSt) : Stp w d r w d r := fun _ h => ⟨h, rfl⟩
theorem Stp.trans {w w1 w2 : World} {d d1 d2 : DSt} {r r1 r2 : RSt} (h : Stp w d r w1 d1 r1) (h2 : Stp w1 d1 r1 w2 d2 r2) : Stp w d r w2 d2 r2 := fun k hk => by
  obtain ⟨h3, h4⟩ := h k hk
  obtain ⟨h5, h6⟩ := h2 k h3
  exact ⟨h5, h6.trans h4⟩
theorem Stp.of_below {w w' : World} {d : DSt} {r : RSt} (hb : Below w.heap.size w w') : Stp w d r w' d r := fun k hk => ⟨⟨Nat.lt_of_lt_of_le hk.1 hb.size, hk.2⟩, hb.block k hk.1⟩
/-- A row beside both. -/
structure RowB {α : Type} (c : Kd α) (e : Nat) (w : World) (d : DSt) (r : RSt) (v : Value) (xs : List α) : Prop where
  row : c.R e w 0 (fun _ => True) v xs
  off : ∀ k, v.ownBlock = some k → ¬ Foot d k ∧ ¬ RFoot r k
theorem RowB.step {α : Type} {c : Kd α} (hE : c.E = []) {e : Nat} {w w' : World} {d d' : DSt} {r r' : RSt} {v : Value} {xs : List α} (h : RowB c e w d r v xs) (s : Stp w d r w' d' r') : RowB c e w' d' r' v xs :=
  ⟨row_same hE h.row (fun k hk => (s k ⟨Kd.R_lt h.row k hk, h.off k hk⟩).2), fun k hk => (s k ⟨Kd.R_lt h.row k hk, h.off k hk⟩).1.2⟩
section
variable {W w : World} {n : Nat} {G : List Nat} {d : DSt} {r : RSt} (T : Two W w n G d r)
include T
theorem Two.foot_ne {k : Nat} (hk : RFoot r k) : ¬ Foot d k := (T.off k hk).2
theorem Two.below {w' : World} (hb : Below w.heap.size w w') : Two W w' n G d r :=
  ⟨T.st.more hb, T.ra.below hb, T.iv, T.rl, fun k hk => (T.off k hk).goes (Goes.of_below d hb), T.own⟩
theorem Two.dstep {w' : World} {d' : DSt} (hD : DiskAt w' d') (hg : Goes w d w' d') : St W w' d' ∧ RAt w' r ∧ (∀ k, RFoot r k → Off w' d' k) ∧ Stp w d r w' d' r :=
  ⟨T.st.goes hD hg, T.ra.move (fun k hk => (T.off k hk).same hg), fun k hk => (T.off k hk).goes hg, fun k hk => ⟨⟨Nat.lt_of_lt_of_le hk.1 hg.kept.size, fun hF => (hg.foot k hF).elim hk.2.1 (fun hs => by have := hk.1; omega), hk.2.2⟩, hg.kept.block k hk.1 hk.2.1⟩⟩
theorem Two.dsame {w' : World} (hD : DiskAt w' d) (hg : Goes w d w' d) : Two W w' n G d r := by
  obtain ⟨h1, h2, h3, _⟩ := T.dstep hD hg
  exact ⟨h1, h2, T.iv, T.rl, h3, T.own⟩
end
/-- The document's disk goes on. -/
theorem rstep {W w w' : World} {d : DSt} {r r' : RSt} (S : St W w d) (off : ∀ k, RFoot r k → Off w d k) (own : ∀ k, RFoot r k → W.heap.size ≤ k) (hA : RAt w' r') (hg : RGoes w r w' r') : St W w' d ∧ (∀ k, RFoot r' k → Off w' d k) ∧ (∀ k, RFoot r' k → W.heap.size ≤ k) ∧ Stp w d r w' d r' := by
  have hW : W.heap.size ≤ w.heap.size := S.kept.size
  refine ⟨⟨S.at_.move (fun k hk => hg.kept.block k (S.at_.foot hk) (fun hw => (off k hw.foot).2 hk)), S.kept.then_ hg.kept (fun k hw => .inr (own k hw.foot)), S.own⟩, fun k hk => ?_, fun k hk => ?_, fun k hk => ?_⟩
  · rcases hg.foot k hk with h | h
    · exact ⟨Nat.lt_of_lt_of_le (off k h).1 hg.kept.size, (off k h).2⟩
    · exact ⟨hA.foot hk, fun hF => by have := S.at_.foot hF; omega⟩
  · rcases hg.foot k hk with h | h
    · exact own k h
    · omega
  · exact ⟨⟨Nat.lt_of_lt_of_le hk.1 hg.kept.size, hk.2.1, fun hF => (hg.foot k hF).elim hk.2.2 (fun hs => by have := hk.1; omega)⟩, hg.kept.block k hk.1 (fun hw => hk.2.2 hw.foot)⟩
/-- What the document's Read tells. -/
theorem Two.read_ {W w : World} {n : Nat} {G : List Nat} {d : DSt} {r : RSt} (T : Two W w n G d r) (hn : n ≤ 60) (s : ByteArray) :
    Calls Try.prog 50 #[.pointer (some ⟨r.gr, 0, none⟩), .string s] w fun e w' => ∃ v : Value, e = .returned (.tuple #[v, .int .i64 (findR d s).2]) ∧ Kd.R (Kd.int .u8) 5 w' w.heap.size (fun _ => True) v (bytesOf d s) ∧ Below w.heap.size w w' := by
  have hd : r.dir.length ≤ 1000000 := by have := T.rl.dir_len; omega
  obtain ⟨he, hc⟩ := T.rl.find T.iv s
  rcases hc with ⟨hf, hne⟩ | ⟨i, hil, f, hfm, hbs, h1, h2, h3, h4, h5, h6, h7⟩
  · refine (readRNo T.ra s hd hne).mono fun e w' ⟨e1, hb⟩ => ⟨_, by rw [he]; exact e1, ?_, hb⟩
    have hb0 : bytesOf d s = [] := by unfold bytesOf; rw [hf]
    rw [hb0]
    exact Kd.R_nil _ _ _ _ _
  · have hl := T.rl.len_le T.iv i hil
    refine (readROk T.ra s hd hbs h4 hil (by omega)).mono fun e w' ⟨v, e1, hR, hb⟩ => ⟨v, by rw [he, h1]; exact e1, ?_, hb⟩
    rw [bytesOf_file T.st.at_ hfm h2, h6]
    exact hR
set_option maxHeartbeats 8000000 in
set_option maxRecDepth 100000 in
theorem alikeC {W w : World} {n : Nat} {G : List Nat} {d : DSt} {r : RSt} (T : Two W w n G d r) (hn : n ≤ 60) {A9 : Option Addr} {c9 : Nat} {L : List ByteArray} (hN : RowB Kd.string 9 w d r (.slice A9 L.length c9) L) (hL : L.length ≤ 100) :
    Calls Try.prog 34 #[.pointer (some ⟨d.gd, 0, none⟩), .pointer (some ⟨r.gr, 0, none⟩), .slice A9 L.length c9] w fun e w' => e = .returned (.bool true) ∧ Two W w' n G d r ∧ Stp w d r w' d r := by
  have HT := Aside0.mk T
  have HRN := Aside0.mk hN
  have HLL := Aside0.mk hL
  have HNN := Aside0.mk hn
  obtain ⟨NL, hNL⟩ : ∃ l, l = namesR r.dir := ⟨_, rfl⟩
  have HNL : Aside0 (NL.length ≤ 60) := ⟨by rw [hNL, namesR, List.length_map]; have := T.rl.dir_len; omega⟩
  have hq1 := Lib.hid (listG T.st.at_ T.iv (by omega))
  rw [T.rl.list_ T.iv, ← hNL] at hq1
  have hq2 := Lib.hid (fun (w1 : World) (hT : Two W w1 n G d r) => listR hT.ra (by have := T.rl.dir_len; omega))
  rw [← hNL] at hq2
  clear T hN hL hn hNL
  generalize hgd : d.gd = gd at *
  generalize hgr : r.gr = gr at *
  have HGD := Aside0.mk hgd
  have HGR := Aside0.mk hgr
  clear hgd hgr
  go_enter Try.func34, Try.ntmps34
  go_wp2_with (first
    | (go_at_call 20; refine hq1.out.mono ?_; rintro e w1 ⟨v, rfl, hR, -, hD, hG⟩; obtain ⟨A7, c7, e7⟩ := Kd.R_slice hR.r; subst e7; have HR7 := Aside0.mk (show Kd.R Kd.string 9 w1 0 (fun _ => True) (.slice A7 NL.length c7) NL from hR.r); have HT1 := Aside0.mk (HT.out.dsame hD hG); have HS1 := Aside0.mk (HT.out.dstep hD hG).2.2.2; clear hR hD hG hq1)
    | (go_at_call 49; refine (hq2.out _ HT1.out).mono ?_; rintro e w2 ⟨v, rfl, hR, hb⟩; obtain ⟨A8, c8, e8⟩ := Kd.R_slice hR; subst e8; have HR8 := Aside0.mk (show Kd.R Kd.string 9 w2 w1.heap.size (fun _ => True) (.slice A8 NL.length c8) NL from hR); have HB2 := Aside0.mk hb; have HT2 := Aside0.mk (HT1.out.below hb); have HS2 := Aside0.mk (HS1.out.trans (Stp.of_below hb)); have hq3 := Lib.hid (textsC (l := NL) (by have := HNL.out; omega) (Kd.R_reads' (Kd.R_below HR7.out hb)).2.2 (Kd.R_reads' (Kd.R_below HR7.out hb)).2.1 (Kd.R_reads' hR).2.2 (Kd.R_reads' hR).2.1); clear hR hb hq2)
    | (go_at_call 22; refine hq3.out.mono ?_; rintro e w3 ⟨rfl, hb⟩; have HT3 := Aside0.mk (HT2.out.below hb); have HS3 := Aside0.mk (HS2.out.trans (Stp.of_below hb)); clear hb hq3))
  go_loopg [8] (L.length + 1) (fun kq v8 w' => ∃ j : Nat, v8 = .int .i64 (j : Int) ∧ Aside0 (j ≤ L.length ∧ L.length + 1 ≤ kq + j) ∧ Aside0 (Two W w' n G d r) ∧ Aside0 (Stp w d r w' d r))
  case atStart => exact ⟨0, rfl, ⟨by omega⟩, HT3, HS3⟩
  case round =>
    clear HR7 HT1 HS1 HR8 HB2 HT2 HS2 HT3 HS3
    obtain ⟨j, rfl, HJ, HTr, HSr⟩ := hrel
    obtain ⟨k2, rfl⟩ : ∃ k2, gk = k2 + 1 := ⟨gk - 1, by have := HJ.out; omega⟩
    have HRr := Aside0.mk (HRN.out.step rfl HSr.out)
    by_cases hj : j < L.length
    · have b3 : decide (j < L.length) = true := decide_eq_true hj
      obtain ⟨hn9, _, hC9⟩ := Kd.R_reads' HRr.out.row
      obtain ⟨adl, hAl, hc1⟩ := Kd.at_string hC9 (j : Int) (by omega) (by omega)
      subst hAl
      rw [Int.toNat_natCast, rdOf_get hj] at hc1
      have hwi : IntKind.i64.wrap ((j : Int) + 1) = ((j + 1 : Nat) : Int) := by have := HLL.out; rw [IntKind.wrap_i64]; omega
      have HJ2 : Aside0 (j + 1 ≤ L.length ∧ L.length + 1 ≤ k2 + (j + 1)) := ⟨by have := HJ.out; omega⟩
      have hq1 := Lib.hid (readG HTr.out.st.at_ HTr.out.iv (by have := HNN.out; omega) (by decide) L[j])
      have hq2 := Lib.hid (fun (w1 : World) (hT : Two W w1 n G d r) => hT.read_ HNN.out L[j])
      rw [HGD.out] at hq1
      rw [HGR.out] at hq2
      have HC1 : Aside0 (∀ w1, Stp wr d r w1 d r → w1.cell? (adl.add j) = some (.string L[j])) := ⟨fun w1 hS => by
        have hR2 := HRr.out.step rfl hS
        obtain ⟨hn9, _, hC9⟩ := Kd.R_reads' hR2.row
        obtain ⟨adl2, hAl, hc1⟩ := Kd.at_string hC9 (j : Int) (by omega) (by omega)
        injection hAl with hAl
        subst hAl
        rw [Int.toNat_natCast, rdOf_get hj] at hc1
        exact hc1⟩
      generalize L[j] = s at *
      generalize bytesOf d s = by_ at *
      generalize (findR d s).2 = er at *
      clear hC9 hn9
      go_upto_region 9 with (first
        | (go_at_call 14; refine hq1.out.mono ?_; rintro e w4 ⟨v, rfl, hR, hD, hG⟩; obtain ⟨Ab, cb, eb⟩ := Kd.R_slice hR.r; subst eb; have HRb := Aside0.mk hR.r; have HT4 := Aside0.mk (HTr.out.dsame hD hG); have HS4 := Aside0.mk (HTr.out.dstep hD hG).2.2.2; have hc2 := HC1.out w4 HS4.out; clear hR hD hG hq1 hc1)
        | (go_at_call 50; refine (hq2.out _ HT4.out).mono ?_; rintro e w5 ⟨v, rfl, hR, hb⟩; obtain ⟨Ae, ce, ee⟩ := Kd.R_slice hR; subst ee; have HRe := Aside0.mk hR; have HRb5 := Aside0.mk (Kd.R_below HRb.out hb); have HT5 := Aside0.mk (HT4.out.below hb); have HS5 := Aside0.mk (HS4.out.trans (Stp.of_below hb)); clear hR hb hq2 hc2))
      have cb1 : (convert 29 9 (.slice Ab by_.length cb)).run Try.prog w5 = .ok (.string (strOfNums by_)) w5 := Kd.C_string Try.underlying29 Try.underlying5 Try.underlying9 (Kd.R_reads' HRb5.out).2.2
      have cb2 : (convert 29 9 (.slice Ae by_.length ce)).run Try.prog w5 = .ok (.string (strOfNums by_)) w5 := Kd.C_string Try.underlying29 Try.underlying5 Try.underlying9 (Kd.R_reads' HRe.out).2.2
      go_wp2
      go_roundg k2
      case measure => omega
      case rel => exact ⟨j + 1, by first | rfl | (rw [hwi]; done) | (simp [hwi]; done), HJ2, HT5, ⟨HSr.out.trans HS5.out⟩⟩
    · have b3 : decide (j < L.length) = false := decide_eq_false hj
      clear hj
      go_wp2
      go_ret
      exact ⟨rfl, HTr.out, HSr.out⟩
end Go.Proofs.Ytoninmgglcepmaa.Dk

namespace Go.Proofs.Ytoninmgglcepmaa.Dk
open Go.ChangeMaps hiding rd
open RegD Go.RowKit Go.Proofs.YtoninmgglcepmaaW.PrintWords Go.Proofs.YtoninmgglcepmaaW.PrintLast Go.Proofs.YtoninmgglcepmaaW.PrintMore Mp QDiskPlays
set_option linter.unusedVariables false
set_option linter.unusedSimpArgs false
/-- Between the two calls. -/
structure Mid (W w : World) (n : Nat) (G : List Nat) (d : DSt) (r : RSt) (w1 : World) (d1 : DSt) : Prop where
  two : Two W w n G d r
  st : St W w1 d1
  ra : RAt w1 r
  iv : Inv d1 (n + 1) 60
  off : ∀ k, RFoot r k → Off w1 d1 k
  stp : Stp w d r w1 d1 r
  gd : d1.gd = d.gd
/-- Behind both. -/
def Nxt (W w : World) (n : Nat) (d : DSt) (r : RSt) (w2 : World) : Prop := ∃ G' d' r', Two W w2 (n + 1) G' d' r' ∧ Stp w d r w2 d' r' ∧ d'.gd = d.gd ∧ r'.gr = r.gr
theorem Two.mid {W w w1 : World} {n : Nat} {G : List Nat} {d d1 : DSt} {r : RSt} (T : Two W w n G d r) (hD : DiskAt w1 d1) (hg : Goes w d w1 d1) (hi : Inv d1 (n + 1) 60) : Mid W w n G d r w1 d1 := by
  obtain ⟨h1, h2, h3, h4⟩ := T.dstep hD hg
  exact ⟨T, h1, h2, hi, h3, h4, hg.gd⟩
/-- What Turn leaves. -/
def Trn (d : DSt) (s : ByteArray) (a x : Int) (b : Bool) (d' : DSt) : Prop :=
  (b = false ∧ d' = d ∧ (getM d.dir s = none ∨ ∃ f ∈ d.fs, getM d.dir s = some f.g ∧ ¬ (0 ≤ a ∧ a < f.bs.length))) ∨
  (b = true ∧ ∃ f ∈ d.fs, getM d.dir s = some f.g ∧ ∃ m : Nat, a = (m : Int) ∧ m < f.bs.length ∧ d' = setF d f m (bits .xor .u8 (rd f.bs (m : Int)) x))
section
variable {W w w1 : World} {n : Nat} {G : List Nat} {d d1 : DSt} {r : RSt} (M : Mid W w n G d r w1 d1)
include M
theorem Mid.nxt {w2 : World} {r2 : RSt} {G2 : List Nat} (hA : RAt w2 r2) (hg : RGoes w1 r w2 r2) (hr : Rel (n + 1) G2 d1 r2) : Nxt W w n d r w2 := by
  obtain ⟨h1, h2, h3, h4⟩ := rstep M.st M.off M.two.own hA hg
  exact ⟨G2, d1, r2, ⟨h1, hA, M.iv, hr, h2, h3⟩, M.stp.trans h4, M.gd, hg.gr⟩
theorem Mid.nxt0 {w2 : World} (hb : Below w1.heap.size w1 w2) (hd : d1 = d) : Nxt W w n d r w2 := M.nxt (M.ra.below hb) (RGoes.of_below r hb) (hd ▸ M.two.rl.more)
theorem Mid.lens (hn : n ≤ 60) : r.dir.length ≤ 1000 ∧ r.log.length ≤ 1000 ∧ r.safe.length ≤ 1000 := by
  have h1 := M.two.rl.dir_len
  have h2 := M.two.rl.bnd
  omega
theorem Mid.ren (hn : n ≤ 60) {s t : ByteArray} (hR : Ren d s t d1) : Calls Try.prog 28 #[.pointer (some ⟨r.gr, 0, none⟩), .string s, .string t] w1 fun e w2 => e = .returned (.int .i64 (renE d s t)) ∧ Nxt W w n d r w2 := by
  obtain ⟨he, hno, hok⟩ := M.two.rl.ren_ M.two.iv s t
  obtain ⟨l1, l2, l3⟩ := M.lens hn
  refine (renR M.ra s t (by omega) (by omega)).mono fun e w2 ⟨h1, hh⟩ => ⟨by rw [he]; exact h1, ?_⟩
  rcases hh with ⟨hc, hA, hB⟩ | ⟨hc, v1, v2, hA, hG⟩
  · exact M.nxt0 hB (hno hc _ hR)
  · exact M.nxt hA hG (hok hc _ hR v1 v2)
theorem Mid.rem (hn : n ≤ 60) {s : ByteArray} (hR : Rem d s d1) : Calls Try.prog 29 #[.pointer (some ⟨r.gr, 0, none⟩), .string s] w1 fun e w2 => e = .returned (.int .i64 (findR d s).2) ∧ Nxt W w n d r w2 := by
  obtain ⟨he, hno, hok⟩ := M.two.rl.rem_ M.two.iv s
  obtain ⟨l1, l2, l3⟩ := M.lens hn
  refine (remR M.ra s (by omega) (by omega)).mono fun e w2 ⟨h1, hh⟩ => ⟨by rw [he]; exact h1, ?_⟩
  rcases hh with ⟨hc, hA, hB⟩ | ⟨hc, v1, v2, hA, hG⟩
  · exact M.nxt0 hB (hno hc _ hR)
  · exact M.nxt hA hG (hok hc _ hR v1 v2)
theorem Mid.sync (hn : n ≤ 60) {s : ByteArray} (hR : Syn d s d1) : Calls Try.prog 27 #[.pointer (some ⟨r.gr, 0, none⟩), .string s] w1 fun e w2 => e = .returned (.int .i64 (findR d s).2) ∧ Nxt W w n d r w2 := by
  obtain ⟨he, hno, hok⟩ := M.two.rl.sync_ M.two.iv M.two.st.at_.hg s
  obtain ⟨l1, l2, l3⟩ := M.lens hn
  by_cases hc : remRE r s = 0
  · obtain ⟨i, hil, hb, hf, hrel⟩ := hok hc
    exact (syncROk M.ra s (by omega) hb hf hil).mono fun e w2 ⟨h1, hA, hG⟩ => ⟨by rw [he, hc]; exact h1, M.nxt hA hG (hrel _ hR)⟩
  · exact (syncRNo M.ra s (by omega) hc).mono fun e w2 ⟨h1, hA, hB⟩ => ⟨by rw [he]; exact h1, M.nxt0 hB (hno hc _ hR)⟩
theorem Mid.syncDir (hn : n ≤ 60) {nb : Nat} (hd : d1 = syncD d nb) : Calls Try.prog 30 #[.pointer (some ⟨r.gr, 0, none⟩)] w1 fun e w2 => e = .returned (.tuple #[]) ∧ Nxt W w n d r w2 := by
  obtain ⟨l1, l2, l3⟩ := M.lens hn
  exact (syncDirR M.ra (by omega)).mono fun e w2 ⟨h1, v, hA, hG⟩ => ⟨h1, M.nxt hA hG (hd ▸ M.two.rl.syncDir_ M.two.iv nb v)⟩
theorem Mid.quota {q : Int} (hd : d1 = { d with quota := q }) : Calls Try.prog 31 #[.pointer (some ⟨r.gr, 0, none⟩), .int .i64 q] w1 fun e w2 => e = .returned (.tuple #[]) ∧ Nxt W w n d r w2 :=
  (quotaR M.ra q).mono fun e w2 ⟨h1, hA, hG⟩ => ⟨h1, M.nxt hA hG (hd ▸ M.two.rl.quota_ q)⟩
theorem Mid.crash (hn : n ≤ 60) (pick : Int) (P : Nat) (hp : (P : Int) = if pick < 0 then -(pick + 1) else pick) (hpb : -9223372036854775808 ≤ pick ∧ pick ≤ 9223372036854775807) {dirP : List (ByteArray × Nat)} {nb1 nb2 : Nat} (hrun : runM d.safe (d.chg.take (P % (d.chg.length + 1))) = some dirP) (hgl : GoodL d.fs n dirP) (hd : d1 = crashD d dirP (P / (d.chg.length + 1)) nb1 nb2) : Calls Try.prog 32 #[.pointer (some ⟨r.gr, 0, none⟩), .int .i64 pick] w1 fun e w2 => e = .returned (.tuple #[]) ∧ Nxt W w n d r w2 := by
  obtain ⟨l1, l2, l3⟩ := M.lens hn
  have hl := M.two.rl.len
  have hc : P % (d.chg.length + 1) ≤ d.chg.length := Nat.le_of_lt_succ (Nat.mod_lt _ (Nat.succ_pos _))
  have hD := M.two.rl.pre _ hc dirP hrun
  refine (crashR M.ra pick P hp hpb l3 l2 rfl (fun e he => ?_) (fun f hf => ?_)).mono fun e w2 ⟨h1, vf, vd, vs, F, hA, hF, hG⟩ => ⟨h1, ?_⟩
  · rw [hl] at he
    obtain ⟨i, hi, hil⟩ := hD.ok e he
    exact ⟨i, hi, M.two.rl.gl ▸ hil⟩
  · obtain ⟨i, hil, rfl⟩ := List.mem_iff_getElem.1 hf
    obtain ⟨f, hfm, e1, e2, e3⟩ := M.two.rl.same i hil
    obtain ⟨s1, s2, s3⟩ := M.two.iv.sf f hfm
    have : n * 60 ≤ 60 * 60 := Nat.mul_le_mul_right _ hn
    rw [← e2, ← e3]
    exact ⟨s1, s2, by omega⟩
  · rw [hl] at hF hA hG
    exact M.nxt hA hG (hd ▸ M.two.rl.crash_ M.two.iv hc hrun hgl rfl hF _ _ _ _ _)
theorem Mid.app (hn : n ≤ 60) {s : ByteArray} {b : List Int} (hb : b.length ≤ 60) (hR : App d s b d1) {A : Option Addr} {c : Nat} (hC : ∀ w', Kept w1 w' (WF r) → Kd.C (Kd.int .u8) w' A b.length b) : Calls Try.prog 26 #[.pointer (some ⟨r.gr, 0, none⟩), .string s, .slice A b.length c] w1 fun e w2 => e = .returned (.int .i64 (appE d s b.length)) ∧ Nxt W w n d r w2 := by
  have hmk : n * 60 ≤ 3600 := Nat.mul_le_mul_right 60 hn
  have ho := M.two.rl.appOk M.two.iv hn hmk hb
  obtain ⟨he, hno, hok⟩ := M.two.rl.app_ M.two.iv M.two.st.at_.hg hn hn hmk s hb
  by_cases hc : appRE r s b.length = 0
  · obtain ⟨hbn, hq, ⟨hf, hh⟩ | ⟨i, hil, hf, hbl, hh⟩⟩ := hok hc
    · refine (appRNew M.ra s ho hC hbn hq hf).mono fun e w2 ⟨h1, A1, c1, vf, vd, vl, hA, hG⟩ => ⟨by rw [he, hc]; exact h1, ?_⟩
      obtain ⟨g, hr⟩ := hh _ hR A1 c1 vf vd vl
      exact M.nxt hA hG hr
    · exact (appROld M.ra s ho hC hbn hq hf hil hbl).mono fun e w2 ⟨h1, A1, c1, hA, hG⟩ => ⟨by rw [he, hc]; exact h1, M.nxt hA hG (hh _ hR A1 c1)⟩
  · exact (appRNo M.ra s ho hc).mono fun e w2 ⟨h1, hB⟩ => ⟨by rw [he]; exact h1, M.nxt0 hB (hno hc _ hR)⟩
theorem Mid.turn (hn : n ≤ 60) {s : ByteArray} {a x : Int} {b : Bool} (hR : Trn d s a x b d1) : Calls Try.prog 33 #[.pointer (some ⟨r.gr, 0, none⟩), .string s, .int .i64 a, .int .u8 x] w1 fun e w2 => e = .returned (.bool b) ∧ Nxt W w n d r w2 := by
  obtain ⟨l1, l2, l3⟩ := M.lens hn
  have hmk : n * 60 ≤ 60 * 60 := Nat.mul_le_mul_right _ hn
  rcases M.two.rl.turn_ M.two.iv M.two.st.at_.hg s with ⟨hg, hf⟩ | ⟨i, hil, f, hfm, hg, hf, e2, hbl, hrel⟩
  · rcases hR with ⟨rfl, hd, _⟩ | ⟨_, f2, hf2, hg2, _⟩
    · exact (turnR0 M.ra s a x (by omega) hf).mono fun e w2 ⟨h1, hB⟩ => ⟨h1, M.nxt0 hB hd⟩
    · rw [hg] at hg2; cases hg2
  · have hsm : ∀ f2 ∈ d.fs, getM d.dir s = some f2.g → f2 = f := fun f2 h1 h2 => M.two.st.at_.hg f2 h1 f hfm (by rw [hg] at h2; injection h2 with h2; exact h2.symm)
    rcases hR with ⟨rfl, hd, hn2 | ⟨f2, hf2, hg2, ha⟩⟩ | ⟨rfl, f2, hf2, hg2, m, rfl, hm, hd⟩
    · rw [hg] at hn2; cases hn2
    · obtain rfl := hsm f2 hf2 hg2
      rw [e2] at ha
      exact (turnR1 M.ra s a x (by omega) hf hil ha).mono fun e w2 ⟨h1, hB⟩ => ⟨h1, M.nxt0 hB hd⟩
    · obtain rfl := hsm f2 hf2 hg2
      rw [e2] at hm hd
      refine (turnROk M.ra s m x (by omega) hf hil (by omega) hm).mono fun e w2 ⟨h1, A1, c1, hA, hG⟩ => ⟨h1, M.nxt hA hG (hd ▸ hrel m _ A1 c1)⟩
end
theorem Two.turn {W w : World} {n : Nat} {G : List Nat} {d : DSt} {r : RSt} (T : Two W w n G d r) (s : ByteArray) (a x : Int) : Calls Try.prog 23 #[.pointer (some ⟨d.gd, 0, none⟩), .string s, .int .i64 a, .int .u8 x] w fun e w1 =>
    ∃ b, e = .returned (.bool b) ∧ ∃ d1, Trn d s a x b d1 ∧ Mid W w n G d r w1 d1 := by
  have h := T.st.at_
  cases hg : getM d.dir s with
  | none => exact (turn0 h s a x hg).mono fun e w1 ⟨h1, hB⟩ => ⟨_, h1, d, .inl ⟨rfl, rfl, .inl hg⟩, T.mid (h.below hB) (Goes.of_below d hB) T.iv.more⟩
  | some g =>
    obtain ⟨f, hf, he⟩ := T.iv.dir.fs _ (getM_mem hg)
    simp only at he
    subst he
    by_cases ha : 0 ≤ a ∧ a < f.bs.length
    · obtain ⟨m, rfl⟩ : ∃ m : Nat, a = (m : Int) := ⟨a.toNat, by omega⟩
      have hm : m < f.bs.length := by omega
      exact (turn2 h s m x hf hg hm).mono fun e w1 ⟨h1, hD, hG⟩ => ⟨_, h1, _, .inr ⟨rfl, f, hf, hg, m, rfl, hm, rfl⟩, T.mid hD hG (T.iv.setF_ hf _ _)⟩
    · exact (turn1 h s a x hf hg ha).mono fun e w1 ⟨h1, hB⟩ => ⟨_, h1, d, .inl ⟨rfl, rfl, .inr ⟨f, hf, hg, ha⟩⟩, T.mid (h.below hB) (Goes.of_below d hB) T.iv.more⟩
/-- A new pair. -/
theorem newTwo {W w w1 : World} {gd bd bs : Nat} {vch : Value} (hS : St W w ⟨gd, bd, bs, vch, -1, [], [], [], []⟩) (hA : RAt w1 (newR w)) (hb : Below w.heap.size w w1) : Two W w1 0 [] ⟨gd, bd, bs, vch, -1, [], [], [], []⟩ (newR w) := by
  have hge : ∀ k, RFoot (newR w) k → w.heap.size ≤ k := fun k hk => by
    rcases hk with hk | hk | hk | hk | hk | ⟨f, hf, _⟩
    · exact Nat.le_of_eq hk.symm
    · cases hk
    · cases hk
    · cases hk
    · cases hk
    · cases hf
  exact ⟨hS.more hb, hA, Inv.new gd bd bs vch 60, Rel.new gd bd bs vch w, fun k hk => ⟨hA.foot hk, fun hF => by have := hS.at_.foot hF; have := hge k hk; omega⟩, fun k hk => Nat.le_trans hS.kept.size (hge k hk)⟩
end Go.Proofs.Ytoninmgglcepmaa.Dk

namespace Go.Proofs.Ytoninmgglcepmaa.Dk
open Go.ChangeMaps hiding rd
open RegD Go.RowKit Go.Proofs.YtoninmgglcepmaaW.PrintWords Go.Proofs.YtoninmgglcepmaaW.PrintLast Go.Proofs.YtoninmgglcepmaaW.PrintMore Mp QDiskPlays
set_option linter.unusedVariables false
set_option linter.unusedSimpArgs false
def fullL (y : List Int) : List Int := y ++ List.replicate 80 165
theorem fullL_len (y : List Int) : (fullL y).length = y.length + 80 := by simp [fullL]
theorem fullL_take (y : List Int) : (fullL y).take y.length = y := by simp [fullL]
theorem w64a {x : Int} (h : -9223372036854775808 ≤ x) (h' : x < 9223372036854775808) : wrap64 x = x := by unfold wrap64; omega
theorem roomy_go : ∀ (m : Nat) (A : List Int) (k : Nat), m < k → A.length + m ≤ 1000000 → columbariumbook_Roomy_byte.l0 k 165 (A ++ List.replicate m 0) (A.length : Int) = some (A ++ List.replicate m 165)
  | 0, A, k, hk, hl => by
    obtain ⟨k, rfl⟩ : ∃ j, k = j + 1 := ⟨k - 1, by omega⟩
    simp [columbariumbook_Roomy_byte.l0]
  | m + 1, A, k, hk, hl => by
    obtain ⟨k, rfl⟩ : ∃ j, k = j + 1 := ⟨k - 1, by omega⟩
    have ih := roomy_go m (A ++ [165]) k (by omega) (by simp; omega)
    rw [columbariumbook_Roomy_byte.l0, if_pos (by simp; omega), if_pos (by omega), Int.toNat_natCast, w64 (by omega)]
    have e1 : (A ++ List.replicate (m + 1) (0 : Int)).set A.length 165 = A ++ [165] ++ List.replicate m 0 := by
      rw [List.set_append_right _ _ (Nat.le_refl _), Nat.sub_self, List.replicate_succ, List.set_cons_zero, List.append_assoc]
      rfl
    rw [e1]
    rw [List.length_append] at ih
    refine ih.trans ?_
    rw [List.append_assoc, List.replicate_succ]
    rfl
theorem roomy {y : List Int} (hy : y.length ≤ 1000) : columbariumbook_Roomy_byte.f 100 y 165 = some (fullL y) := by
  unfold columbariumbook_Roomy_byte.f
  rw [w64a (x := (y.length : Int) + 80) (by omega) (by omega), if_pos (by omega), if_pos (by omega)]
  have e1 : ((y.length : Int) + 80).toNat = y.length + 80 := by omega
  rw [e1]
  show (some (((Nat.min y.length (List.replicate (y.length + 80) (0 : Int)).length : Nat) : Int), copyL_29 (List.replicate (y.length + 80) 0) y)).bind _ = _
  have e2 : copyL_29 (List.replicate (y.length + 80) 0) y = y ++ List.replicate 80 0 := by
    unfold copyL_29
    have : Nat.min y.length (List.replicate (y.length + 80) (0 : Int)).length = y.length := by rw [List.length_replicate]; exact Nat.min_eq_left (by omega)
    rw [this, List.take_length, List.drop_replicate]
    congr 2
    omega
  rw [e2]
  exact roomy_go 80 y 100 (by omega) (by omega)
theorem sameB_go (y : List Int) (hy : y.length ≤ 1000000) : ∀ (k i : Nat), y.length < k + i → i ≤ y.length → columbariumbook_Same_byte.l0 k y y (i : Int) = some true
  | 0, i, h, h2 => by omega
  | k + 1, i, h, h2 => by
    rw [columbariumbook_Same_byte.l0]
    by_cases hi : i < y.length
    · rw [if_pos (by omega), if_pos (by omega), if_pos (by omega), if_pos rfl, w64 (by omega)]
      exact sameB_go y hy k (i + 1) (by omega) (by omega)
    · rw [if_neg (by omega)]
theorem intact_go (x : List Int) (v : Int) (hx : x.length ≤ 1000000) : ∀ (k i : Nat), x.length < k + i → i ≤ x.length → (∀ j, i ≤ j → j < x.length → rd x (j : Int) = v) → columbariumbook_Intact_byte.l0 k x v (i : Int) = some true
  | 0, i, h, h0, hv => by omega
  | k + 1, i, h, h0, hv => by
    rw [columbariumbook_Intact_byte.l0]
    by_cases hi : i < x.length
    · rw [if_pos (by omega), if_pos (by omega), if_pos (hv i (Nat.le_refl _) hi), w64 (by omega)]
      exact intact_go x v hx k (i + 1) (by omega) (by omega) (fun j h1 h2 => hv j (by omega) h2)
    · rw [if_neg (by omega)]
theorem intact {y : List Int} (hy : y.length ≤ 1000) : columbariumbook_Intact_byte.f 2000 (fullL y) y 165 = some true := by
  have hl := fullL_len y
  unfold columbariumbook_Intact_byte.f
  rw [w64a (x := (y.length : Int) + 80) (by omega) (by omega), if_pos (by omega), if_pos (by omega), if_pos (by omega), Int.toNat_natCast, fullL_take]
  unfold columbariumbook_Same_byte.f
  rw [if_pos rfl, show columbariumbook_Same_byte.l0 2000 y y 0 = some true from sameB_go y (by omega) 2000 0 (by omega) (by omega)]
  show columbariumbook_Intact_byte.j0 (1999 + 1) (fullL y) y 165 (!true) = _
  rw [columbariumbook_Intact_byte.j0, if_neg (by decide)]
  refine intact_go (fullL y) 165 (by omega) 1999 y.length (by omega) (by omega) (fun j h1 h2 => ?_)
  rw [rd, Int.toNat_natCast, List.getD_eq_getElem?_getD, fullL, List.getElem?_append_right h1, List.getElem?_replicate, if_pos (by omega)]
  rfl
end Go.Proofs.Ytoninmgglcepmaa.Dk

namespace Go.Proofs.Ytoninmgglcepmaa.Dk
open Go.ChangeMaps hiding rd
open RegD Go.RowKit Go.Proofs.YtoninmgglcepmaaW.PrintWords Go.Proofs.YtoninmgglcepmaaW.PrintLast Go.Proofs.YtoninmgglcepmaaW.PrintMore Mp QDiskPlays
set_option linter.unusedVariables false
set_option linter.unusedSimpArgs false
/-- Between two rounds. -/
def PL (W w : World) (gd gr n : Nat) (vN : Value) (M : List ByteArray) : Prop :=
  ∃ G d r, Two W w n G d r ∧ RowB Kd.string 9 w d r vN M ∧ (∀ k, vN.ownBlock = some k → W.heap.size ≤ k) ∧ d.gd = gd ∧ r.gr = gr
structure PY (W w : World) (n : Nat) (G : List Nat) (d : DSt) (r : RSt) (vN : Value) (M : List ByteArray) (bx : Nat) (o : Obj) (vF : Value) (F : List Int) : Prop where
  two : Two W w n G d r
  nm : RowB Kd.string 9 w d r vN M
  fl : RowB (Kd.int .u8) 5 w d r vF F
  bs : Bes w d r bx
  blk : w.heap[bx]? = some o
  own : ∀ k, vN.ownBlock = some k → W.heap.size ≤ k
/-- In a round. -/
def PX (W w : World) (gd gr n : Nat) (vN : Value) (M : List ByteArray) (bx : Nat) (o : Obj) (vF : Value) (F : List Int) : Prop := ∃ G d r, PY W w n G d r vN M bx o vF F ∧ d.gd = gd ∧ r.gr = gr
section
variable {W w : World} {n : Nat} {G : List Nat} {d : DSt} {r : RSt} {vN : Value} {M : List ByteArray} {bx : Nat} {o : Obj} {vF : Value} {F : List Int} (P : PY W w n G d r vN M bx o vF F)
include P
theorem PY.stp {w' : World} {n' : Nat} {G' : List Nat} {d' : DSt} {r' : RSt} (T : Two W w' n' G' d' r') (s : Stp w d r w' d' r') : PY W w' n' G' d' r' vN M bx o vF F :=
  ⟨T, P.nm.step rfl s, P.fl.step rfl s, (s _ P.bs).1, (s _ P.bs).2.trans P.blk, P.own⟩
theorem PY.nxt {w2 : World} (h : Nxt W w n d r w2) : PX W w2 d.gd r.gr (n + 1) vN M bx o vF F := by
  obtain ⟨G', d', r', T, s, e1, e2⟩ := h
  exact ⟨G', d', r', P.stp T s, e1, e2⟩
theorem PY.mid {w1 : World} {d1 : DSt} (h : Mid W w n G d r w1 d1) : w1.heap[bx]? = some o := (h.stp _ P.bs).2.trans P.blk
end
section
variable {W w : World} {gd gr n : Nat} {vN : Value} {M : List ByteArray} {bx : Nat} {o : Obj} {vF : Value} {F : List Int} (h : PX W w gd gr n vN M bx o vF F)
include h
theorem PX.blk : w.heap[bx]? = some o := by
  obtain ⟨G, d, r, P, -, -⟩ := h
  exact P.blk
theorem PX.below {w' : World} (hb : Below w.heap.size w w') : PX W w' gd gr n vN M bx o vF F := by
  obtain ⟨G, d, r, P, e1, e2⟩ := h
  exact ⟨G, d, r, P.stp (P.two.below hb) (Stp.of_below hb), e1, e2⟩
theorem PX.end_ : PL W w gd gr n vN M := by
  obtain ⟨G, d, r, P, e1, e2⟩ := h
  exact ⟨G, d, r, P.two, P.nm, P.own, e1, e2⟩
theorem PX.fromW : Below W.heap.size W w := by
  obtain ⟨G, d, r, P, e1, e2⟩ := h
  exact P.two.st.below
theorem PX.nmSlice : ∃ A c, vN = .slice A M.length c := by
  obtain ⟨G, d, r, P, e1, e2⟩ := h
  exact Kd.R_slice P.nm.row
theorem PX.nmRow : Kd.R Kd.string 9 w 0 (fun _ => True) vN M := by
  obtain ⟨G, d, r, P, e1, e2⟩ := h
  exact P.nm.row
theorem PX.append {hn : n ≤ 60} (s : ByteArray) {A : Option Addr} {c : Nat} {y : List Int} (hy : y.length ≤ 60) (hC : Kd.C (Kd.int .u8) W A y.length y) {AF : Option Addr} {cF : Nat} (hF : vF = .slice AF F.length cF) (hFt : y = F.take y.length) :
    Calls Try.prog 13 #[.pointer (some ⟨gd, 0, none⟩), .string s, .slice AF y.length cF] w fun e w1 => ∃ v, e = .returned (.int .i64 v) ∧ w1.heap[bx]? = some o ∧
      Calls Try.prog 26 #[.pointer (some ⟨gr, 0, none⟩), .string s, .slice A y.length c] w1 fun e2 w2 => e2 = .returned (.int .i64 v) ∧ PX W w2 gd gr (n + 1) vN M bx o vF F := by
  obtain ⟨G, d, r, P, rfl, rfl⟩ := h
  have hB : Bytes w d AF y := by
    have hr := P.fl.row
    rw [hF] at hr
    obtain ⟨-, -, hc⟩ := Kd.R_reads' hr
    have hc2 := came_cutN y.length hc hFt
    refine ⟨hc2, fun hp ad he => ?_⟩
    subst he
    refine ⟨Kd.C_lt hc2 hp (by decide), (P.fl.off ad.block ?_).1⟩
    rw [hF]
    rfl
  refine (appG P.two.st.at_ P.two.iv (by omega) (by decide) (s := s) (cp := cF) hB hy).mono ?_
  rintro e w1 ⟨rfl, d1, hA, hD, hG, hI⟩
  have M1 := P.two.mid hD hG hI
  exact ⟨_, rfl, P.mid M1, (M1.app hn hy hA (fun w' hK => Kd.C_below hC ((M1.st.kept.then_ hK (fun k hw => .inr (M1.two.own k hw.foot))).toBelow (fun _ hk => hk.elim)))).mono fun e2 w2 ⟨h1, h2⟩ => ⟨h1, P.nxt h2⟩⟩
theorem PX.sync (hn : n ≤ 60) (s : ByteArray) :
    Calls Try.prog 16 #[.pointer (some ⟨gd, 0, none⟩), .string s] w fun e w1 => ∃ v, e = .returned (.int .i64 v) ∧ w1.heap[bx]? = some o ∧
      Calls Try.prog 27 #[.pointer (some ⟨gr, 0, none⟩), .string s] w1 fun e2 w2 => e2 = .returned (.int .i64 v) ∧ PX W w2 gd gr (n + 1) vN M bx o vF F := by
  obtain ⟨G, d, r, P, rfl, rfl⟩ := h
  refine (syncG P.two.st.at_ P.two.iv s).mono ?_
  rintro e w1 ⟨rfl, d1, hA, hD, hG, hI⟩
  have M1 := P.two.mid hD hG hI
  exact ⟨_, rfl, P.mid M1, (M1.sync hn hA).mono fun e2 w2 ⟨h1, h2⟩ => ⟨h1, P.nxt h2⟩⟩
theorem PX.ren (hn : n ≤ 60) (s t : ByteArray) :
    Calls Try.prog 19 #[.pointer (some ⟨gd, 0, none⟩), .string s, .string t] w fun e w1 => ∃ v, e = .returned (.int .i64 v) ∧ w1.heap[bx]? = some o ∧
      Calls Try.prog 28 #[.pointer (some ⟨gr, 0, none⟩), .string s, .string t] w1 fun e2 w2 => e2 = .returned (.int .i64 v) ∧ PX W w2 gd gr (n + 1) vN M bx o vF F := by
  obtain ⟨G, d, r, P, rfl, rfl⟩ := h
  refine (renG P.two.st.at_ P.two.iv (by omega) s t).mono ?_
  rintro e w1 ⟨rfl, d1, hA, hD, hG, hI⟩
  have M1 := P.two.mid hD hG hI
  exact ⟨_, rfl, P.mid M1, (M1.ren hn hA).mono fun e2 w2 ⟨h1, h2⟩ => ⟨h1, P.nxt h2⟩⟩
theorem PX.rem (hn : n ≤ 60) (s : ByteArray) :
    Calls Try.prog 21 #[.pointer (some ⟨gd, 0, none⟩), .string s] w fun e w1 => ∃ v, e = .returned (.int .i64 v) ∧ w1.heap[bx]? = some o ∧
      Calls Try.prog 29 #[.pointer (some ⟨gr, 0, none⟩), .string s] w1 fun e2 w2 => e2 = .returned (.int .i64 v) ∧ PX W w2 gd gr (n + 1) vN M bx o vF F := by
  obtain ⟨G, d, r, P, rfl, rfl⟩ := h
  refine (remG P.two.st.at_ P.two.iv (by omega) s).mono ?_
  rintro e w1 ⟨rfl, d1, hA, hD, hG, hI⟩
  have M1 := P.two.mid hD hG hI
  exact ⟨_, rfl, P.mid M1, (M1.rem hn hA).mono fun e2 w2 ⟨h1, h2⟩ => ⟨h1, P.nxt h2⟩⟩
theorem PX.syncDir (hn : n ≤ 60) :
    Calls Try.prog 17 #[.pointer (some ⟨gd, 0, none⟩)] w fun e w1 => e = .returned (.tuple #[]) ∧ w1.heap[bx]? = some o ∧
      Calls Try.prog 30 #[.pointer (some ⟨gr, 0, none⟩)] w1 fun e2 w2 => e2 = .returned (.tuple #[]) ∧ PX W w2 gd gr (n + 1) vN M bx o vF F := by
  obtain ⟨G, d, r, P, rfl, rfl⟩ := h
  refine (syncDirG P.two.st.at_ P.two.iv).mono ?_
  rintro e w1 ⟨rfl, nb, hD, hG, hI⟩
  have M1 := P.two.mid hD hG hI
  exact ⟨rfl, P.mid M1, (M1.syncDir hn rfl).mono fun e2 w2 ⟨h1, h2⟩ => ⟨h1, P.nxt h2⟩⟩
theorem PX.quota (q : Int) (hq : -9223372036854775808 ≤ q ∧ q ≤ 9223372036854775807) :
    Calls Try.prog 12 #[.pointer (some ⟨gd, 0, none⟩), .int .i64 q] w fun e w1 => e = .returned (.tuple #[]) ∧ w1.heap[bx]? = some o ∧
      Calls Try.prog 31 #[.pointer (some ⟨gr, 0, none⟩), .int .i64 q] w1 fun e2 w2 => e2 = .returned (.tuple #[]) ∧ PX W w2 gd gr (n + 1) vN M bx o vF F := by
  obtain ⟨G, d, r, P, rfl, rfl⟩ := h
  refine (quotaG P.two.st.at_ P.two.iv q hq).mono ?_
  rintro e w1 ⟨rfl, hD, hG, hI⟩
  have M1 := P.two.mid hD hG hI
  exact ⟨rfl, P.mid M1, (M1.quota rfl).mono fun e2 w2 ⟨h1, h2⟩ => ⟨h1, P.nxt h2⟩⟩
theorem PX.crash (hn : n ≤ 60) (pick : Int) (hpb : -9223372036854775808 ≤ pick ∧ pick ≤ 9223372036854775807) :
    Calls Try.prog 18 #[.pointer (some ⟨gd, 0, none⟩), .int .i64 pick] w fun e w1 => e = .returned (.tuple #[]) ∧ w1.heap[bx]? = some o ∧
      Calls Try.prog 32 #[.pointer (some ⟨gr, 0, none⟩), .int .i64 pick] w1 fun e2 w2 => e2 = .returned (.tuple #[]) ∧ PX W w2 gd gr (n + 1) vN M bx o vF F := by
  obtain ⟨Pk, hP⟩ : ∃ P : Nat, (P : Int) = if pick < 0 then -(pick + 1) else pick := ⟨(if pick < 0 then -(pick + 1) else pick).toNat, by split <;> omega⟩
  obtain ⟨G, d, r, P, rfl, rfl⟩ := h
  refine (crashG P.two.st.at_ P.two.iv (by omega) (by decide) pick Pk hP hpb).mono ?_
  rintro e w1 ⟨rfl, dirP, nb1, nb2, hrun, hgl, hD, hG, hI⟩
  have M1 := P.two.mid hD hG hI
  exact ⟨rfl, P.mid M1, (M1.crash hn pick Pk hP hpb hrun hgl rfl).mono fun e2 w2 ⟨h1, h2⟩ => ⟨h1, P.nxt h2⟩⟩
theorem PX.turn (hn : n ≤ 60) (s : ByteArray) (a x : Int) :
    Calls Try.prog 23 #[.pointer (some ⟨gd, 0, none⟩), .string s, .int .i64 a, .int .u8 x] w fun e w1 => ∃ b, e = .returned (.bool b) ∧ w1.heap[bx]? = some o ∧
      Calls Try.prog 33 #[.pointer (some ⟨gr, 0, none⟩), .string s, .int .i64 a, .int .u8 x] w1 fun e2 w2 => e2 = .returned (.bool b) ∧ PX W w2 gd gr (n + 1) vN M bx o vF F := by
  obtain ⟨G, d, r, P, rfl, rfl⟩ := h
  refine (P.two.turn s a x).mono ?_
  rintro e w1 ⟨b, rfl, d1, hA, M1⟩
  exact ⟨_, rfl, P.mid M1, (M1.turn hn hA).mono fun e2 w2 ⟨h1, h2⟩ => ⟨h1, P.nxt h2⟩⟩
theorem PX.more : PX W w gd gr (n + 1) vN M bx o vF F := by
  obtain ⟨G, d, r, P, rfl, rfl⟩ := h
  exact ⟨G, d, r, ⟨⟨P.two.st, P.two.ra, P.two.iv.more, P.two.rl.more, P.two.off, P.two.own⟩, P.nm, P.fl, P.bs, P.blk, P.own⟩, rfl, rfl⟩
theorem PX.alike (hn : n ≤ 60) {A9 : Option Addr} {c9 : Nat} (hv : vN = .slice A9 M.length c9) (hL : M.length ≤ 100) :
    Calls Try.prog 34 #[.pointer (some ⟨gd, 0, none⟩), .pointer (some ⟨gr, 0, none⟩), .slice A9 M.length c9] w fun e w' => e = .returned (.bool true) ∧ PX W w' gd gr n vN M bx o vF F := by
  obtain ⟨G, d, r, P, rfl, rfl⟩ := h
  exact (alikeC P.two hn (hv ▸ P.nm) hL).mono fun e w' ⟨h1, h2, h3⟩ => ⟨h1, G, d, r, P.stp h2 h3, rfl, rfl⟩
theorem PX.roomy {A : Option Addr} {c : Nat} {y : List Int} (hv : vF = .slice none 0 0) (hy : y.length ≤ 60) (hyc : y.length ≤ c) (hC : Kd.C (Kd.int .u8) W A y.length y) :
    Calls Try.prog 25 #[.slice A y.length c, .int .u8 165] w fun e w' => ∃ AF cF, e = .returned (.slice AF (fullL y).length cF) ∧ (fullL y).length ≤ cF ∧ PX W w' gd gr n vN M bx o (.slice AF (fullL y).length cF) (fullL y) := by
  have hb := h.fromW
  obtain ⟨G, d, r, P, rfl, rfl⟩ := h
  refine (columbariumbook_Roomy_byte.calls 100 A c y 165 (fullL y) w (Kd.C_below hC hb) hyc (Dk.roomy (by omega))).mono ?_
  rintro e w' ⟨v, rfl, hR, hb2⟩
  obtain ⟨AF, cF, rfl⟩ := Kd.R_slice hR
  have h1 := P.stp (P.two.below hb2) (Stp.of_below hb2)
  refine ⟨AF, cF, rfl, (Kd.R_reads' hR).2.1, G, d, r, ⟨h1.two, h1.nm, ⟨Kd.R_lower hR (Nat.zero_le _), fun k hk => ?_⟩, h1.bs, h1.blk, h1.own⟩, rfl, rfl⟩
  have h2 := Kd.R_base hR k hk
  exact ⟨fun hF => by have := P.two.st.at_.foot hF; omega, fun hF => by have := P.two.ra.foot hF; omega⟩
theorem PX.intact {A : Option Addr} {c : Nat} {y : List Int} {AF : Option Addr} {cF : Nat} (hy : y.length ≤ 60) (hyc : y.length ≤ c) (hC : Kd.C (Kd.int .u8) W A y.length y) (hv : vF = .slice AF (fullL y).length cF) (hF : F = fullL y) (hcF : (fullL y).length ≤ cF) :
    Calls Try.prog 35 #[.slice AF (fullL y).length cF, .slice A y.length c, .int .u8 165] w fun e w' => e = .returned (.bool true) ∧ PX W w' gd gr n vN M bx o vF F := by
  have hb := h.fromW
  have hCF : Kd.C (Kd.int .u8) w AF (fullL y).length (fullL y) := by
    obtain ⟨G, d, r, P, rfl, rfl⟩ := h
    have hr := P.fl.row
    subst hF
    rw [hv] at hr
    exact (Kd.R_reads' hr).2.2
  exact (columbariumbook_Intact_byte.calls 2000 AF cF (fullL y) A c y 165 true w hCF hcF (Kd.C_below hC hb) hyc (Dk.intact (by omega))).mono fun e w' ⟨h1, h2⟩ => ⟨h1, h.below h2.below⟩
theorem PX.names {cs : Array Value} {f : Nat × Nat} (ho : o = .cells cs 43 f) (hv : vF = .slice none 0 0) (hF : F = []) {w9 : World} {v9 : Value} {M9 : List ByteArray} (hR : Kd.R Kd.string 9 w9 0 (fun _ => True) v9 M9) (hg : w.grownBy w9 vN.ownBlock) (hat : v9.ownBlock = vN.ownBlock ∨ ∃ b, v9.ownBlock = some b ∧ w.heap.size ≤ b) :
    PX W w9 gd gr n v9 M9 bx o vF F := by
  obtain ⟨G, d, r, P, rfl, rfl⟩ := h
  have hW := P.two.st.kept.size
  have hne : vN.ownBlock ≠ some bx := fun hk => by
    obtain ⟨cs2, hc⟩ := Kd.R_typed P.nm.row _ hk
    rw [P.blk, ho] at hc
    injection hc with hc
    injection hc with _ hc
    cases hc
  have T : Two W w9 n G d r := ⟨⟨P.two.st.at_.off hg (fun k hk => (P.nm.off k hk).1), Kept.of_grown hg P.two.st.kept (fun k hk => .inr (P.own k hk)), P.two.st.own⟩,
    P.two.ra.move (fun k hk => hg.block k (P.two.ra.foot hk) (fun he => (P.nm.off k he.symm).2 hk)), P.two.iv, P.two.rl, fun k hk => ⟨Nat.lt_of_lt_of_le (P.two.off k hk).1 hg.size, (P.two.off k hk).2⟩, P.two.own⟩
  refine ⟨G, d, r, ⟨T, ⟨hR, fun k hk => ?_⟩, ⟨by rw [hv, hF]; exact Kd.R_nil _ _ _ _ _, fun k hk => (by rw [hv] at hk; cases hk)⟩, ⟨Nat.lt_of_lt_of_le P.bs.1 hg.size, P.bs.2⟩, (hg.block bx P.bs.1 (fun he => hne he.symm)).trans P.blk, fun k hk => ?_⟩, rfl, rfl⟩
  · rcases hat with hat | ⟨b, hb, hl⟩
    · exact P.nm.off k (hat ▸ hk)
    · rw [hb] at hk
      injection hk with hk
      subst hk
      exact ⟨fun hF => by have := P.two.st.at_.foot hF; omega, fun hF => by have := P.two.ra.foot hF; omega⟩
  · rcases hat with hat | ⟨b, hb, hl⟩
    · exact P.own k (hat ▸ hk)
    · rw [hb] at hk
      injection hk with hk
      subst hk
      exact Nat.le_trans hW hl
end
/-- Two texts just made. -/
theorem lit2 (w : World) (s t : ByteArray) : Kd.C Kd.string (w.alloc (.cells #[.string s, .string t] 9)) (some ⟨w.heap.size, 0, none⟩) 2 [s, t] := by
  have hb := blk_new w (.cells #[.string s, .string t] 9)
  refine ⟨rfl, by decide, fun _ => ⟨_, rfl, fun j p hp => ?_⟩⟩
  match j, hp with
  | 0, hp =>
    obtain rfl : s = p := Option.some.inj hp
    refine ⟨[.string s], rfl, rfl, fun i u hu => ?_⟩
    match i, hu with
    | 0, hu => exact (blk_cell hb 0).trans hu
  | 1, hp =>
    obtain rfl : t = p := Option.some.inj hp
    refine ⟨[.string t], rfl, rfl, fun i u hu => ?_⟩
    match i, hu with
    | 0, hu => exact (blk_cell hb 1).trans hu
theorem PL.start {W w : World} {gd gr n : Nat} {vN : Value} {M : List ByteArray} (h : PL W w gd gr n vN M) (o : Obj) : PX W (w.alloc o) gd gr n vN M w.heap.size o (.slice none 0 0) [] := by
  obtain ⟨G, d, r, T, hN, hO, e1, e2⟩ := h
  have hb : Below w.heap.size w (w.alloc o) := below_alloc (Below.refl _ _) o
  refine ⟨G, d, r, ⟨T.below hb, hN.step rfl (Stp.of_below hb), ⟨Kd.R_nil _ _ _ _ _, fun k hk => (by cases hk)⟩, ⟨(Array.getElem?_eq_some_iff.1 (blk_new w o)).1, fun hF => ?_, fun hF => ?_⟩, blk_new w o, hO⟩, e1, e2⟩
  · exact Nat.lt_irrefl _ (T.st.at_.foot hF)
  · exact Nat.lt_irrefl _ (T.ra.foot hF)
theorem PL.nmSlice {W w : World} {gd gr n : Nat} {vN : Value} {M : List ByteArray} (h : PL W w gd gr n vN M) : ∃ A c, vN = .slice A M.length c := by
  obtain ⟨G, d, r, T, hN, hO, e1, e2⟩ := h
  exact Kd.R_slice hN.row
theorem PL.below {W w : World} {gd gr n : Nat} {vN : Value} {M : List ByteArray} (h : PL W w gd gr n vN M) : Below W.heap.size W w := by
  obtain ⟨G, d, r, T, hN, hO, e1, e2⟩ := h
  exact T.st.below
theorem PL.new {W w w1 : World} {gd bd bs : Nat} {vch : Value} (hS : St W w ⟨gd, bd, bs, vch, -1, [], [], [], []⟩) (hA : RAt w1 (newR w)) (hb : Below w.heap.size w w1) : PL W w1 gd w.heap.size 0 (.slice none 0 0) [] :=
  ⟨[], _, _, newTwo hS hA hb, ⟨Kd.R_nil _ _ _ _ _, fun k hk => (by cases hk)⟩, fun k hk => (by cases hk), rfl, rfl⟩
end Go.Proofs.Ytoninmgglcepmaa.Dk
