/- What stays true of a disk, whatever is called: the plain law of directories and their changes. -/
import Derived.Test.YtoninmgglcepmaaD14
namespace Go.Proofs.Ytoninmgglcepmaa.Dk
open RegD Go.RowKit Go.ChangeMaps Go.Proofs.YtoninmgglcepmaaW.PrintWords Go.Proofs.YtoninmgglcepmaaW.PrintLast Go.Proofs.YtoninmgglcepmaaW.PrintMore Mp
set_option linter.unusedVariables false
set_option linter.unusedSimpArgs false
section
variable {α : Type}
theorem mem_putM {l : List (ByteArray × α)} {s : ByteArray} {v : α} {p : ByteArray × α} (h : p ∈ putM l s v) : p = (s, v) ∨ p ∈ l := by
  induction l with
  | nil => exact .inl (List.mem_singleton.1 h)
  | cons q l ih =>
    unfold putM at h
    split at h
    · rcases List.mem_cons.1 h with h | h
      · exact .inl h
      · exact .inr (List.mem_cons_of_mem _ h)
    · rcases List.mem_cons.1 h with h | h
      · exact .inr (h ▸ List.mem_cons_self ..)
      · exact (ih h).imp id (List.mem_cons_of_mem _)
theorem delM_sub (l : List (ByteArray × α)) (s : ByteArray) : (delM l s).Sublist l := by
  induction l with
  | nil => exact List.Sublist.refl _
  | cons q l ih =>
    unfold delM
    split
    · exact List.sublist_cons_self ..
    · exact ih.cons_cons _
theorem putM_len (l : List (ByteArray × α)) (s : ByteArray) (v : α) : (putM l s v).length ≤ l.length + 1 := by
  induction l with
  | nil => exact Nat.le_refl _
  | cons q l ih =>
    unfold putM
    split
    · simp
    · simpa using ih
theorem getM_put (l : List (ByteArray × α)) (s : ByteArray) (v : α) (t : ByteArray) : getM (putM l s v) t = if s = t then some v else getM l t := by
  induction l with
  | nil => simp [putM, getM]
  | cons q l ih =>
    unfold putM
    by_cases h : q.1 = s
    · rw [if_pos h]
      simp only [getM]
      by_cases h2 : s = t
      · rw [if_pos h2, if_pos h2]
      · rw [if_neg h2, if_neg h2, if_neg (h ▸ h2)]
    · rw [if_neg h]
      simp only [getM]
      by_cases h2 : q.1 = t
      · rw [if_pos h2, if_pos h2, if_neg (fun e => h (h2.trans e.symm))]
      · rw [if_neg h2, if_neg h2, ih]
theorem getM_none {l : List (ByteArray × α)} {s : ByteArray} : getM l s = none ↔ s ∉ l.map (·.1) := by
  induction l with
  | nil => simp [getM]
  | cons q l ih =>
    unfold getM
    by_cases h : q.1 = s
    · rw [if_pos h]; simp [h]
    · rw [if_neg h, ih]; simp [Ne.symm h]
theorem getM_del {l : List (ByteArray × α)} (hn : (l.map (·.1)).Nodup) (s t : ByteArray) : getM (delM l s) t = if s = t then none else getM l t := by
  induction l with
  | nil => simp [delM, getM]
  | cons q l ih =>
    rw [List.map_cons, List.nodup_cons] at hn
    unfold delM
    by_cases h : q.1 = s
    · rw [if_pos h]
      by_cases h2 : s = t
      · rw [if_pos h2]
        exact getM_none.2 (h2 ▸ h ▸ hn.1)
      · rw [if_neg h2]
        simp only [getM]
        rw [if_neg (h ▸ h2)]
    · rw [if_neg h]
      simp only [getM]
      by_cases h2 : q.1 = t
      · rw [if_pos h2, if_pos h2, if_neg (fun e => h (h2.trans e.symm))]
      · rw [if_neg h2, if_neg h2, ih hn.2]
theorem mem_getM {l : List (ByteArray × α)} (hn : (l.map (·.1)).Nodup) {s : ByteArray} {v : α} (h : (s, v) ∈ l) : getM l s = some v := by
  induction l with
  | nil => cases h
  | cons q l ih =>
    rw [List.map_cons, List.nodup_cons] at hn
    unfold getM
    rcases List.mem_cons.1 h with h | h
    · rw [← h, if_pos rfl]
    · rw [if_neg (fun e => hn.1 (List.mem_map.2 ⟨_, h, e.symm⟩)), ih hn.2 h]
theorem putM_keys {l : List (ByteArray × α)} (hn : (l.map (·.1)).Nodup) (s : ByteArray) (v : α) : ((putM l s v).map (·.1)).Nodup := by
  induction l with
  | nil => simp [putM]
  | cons q l ih =>
    rw [List.map_cons, List.nodup_cons] at hn
    unfold putM
    by_cases h : q.1 = s
    · rw [if_pos h, List.map_cons, List.nodup_cons]; exact ⟨h ▸ hn.1, hn.2⟩
    · rw [if_neg h, List.map_cons, List.nodup_cons]
      refine ⟨fun hm => ?_, ih hn.2⟩
      obtain ⟨p, hp, he⟩ := List.mem_map.1 hm
      rcases mem_putM hp with rfl | hp
      · exact h he.symm
      · exact hn.1 (List.mem_map.2 ⟨p, hp, he⟩)
theorem putM_vals {l : List (ByteArray × α)} (hn : (l.map (·.2)).Nodup) (s : ByteArray) {v : α} (hv : v ∉ l.map (·.2)) : ((putM l s v).map (·.2)).Nodup := by
  induction l with
  | nil => simp [putM]
  | cons q l ih =>
    rw [List.map_cons, List.nodup_cons] at hn
    have hv2 : v ∉ l.map (·.2) := fun h => hv (List.mem_cons_of_mem _ h)
    unfold putM
    by_cases h : q.1 = s
    · rw [if_pos h, List.map_cons, List.nodup_cons]; exact ⟨hv2, hn.2⟩
    · rw [if_neg h, List.map_cons, List.nodup_cons]
      refine ⟨fun hm => ?_, ih hn.2 hv2⟩
      obtain ⟨p, hp, he⟩ := List.mem_map.1 hm
      rcases mem_putM hp with rfl | hp
      · exact hv (by rw [List.map_cons]; exact (show v = q.2 from he) ▸ List.mem_cons_self ..)
      · exact hn.1 (List.mem_map.2 ⟨p, hp, he⟩)
theorem del_gone {l : List (ByteArray × α)} (hn : (l.map (·.2)).Nodup) {s : ByteArray} {v : α} (h : getM l s = some v) : v ∉ (delM l s).map (·.2) := by
  induction l with
  | nil => cases h
  | cons q l ih =>
    rw [List.map_cons, List.nodup_cons] at hn
    unfold getM at h
    unfold delM
    by_cases hc : q.1 = s
    · rw [if_pos hc] at h ⊢
      injection h with h
      exact h ▸ hn.1
    · rw [if_neg hc] at h ⊢
      rw [List.map_cons, List.mem_cons, not_or]
      refine ⟨fun e => ?_, ih hn.2 h⟩
      have : v ∈ l.map (·.2) := by
        clear ih
        induction l with
        | nil => cases h
        | cons q2 l ih2 =>
          unfold getM at h
          by_cases hc2 : q2.1 = s
          · rw [if_pos hc2] at h
            injection h with h
            rw [List.map_cons, h]
            exact List.mem_cons_self ..
          · rw [if_neg hc2] at h
            rw [List.map_cons] at hn ⊢
            exact List.mem_cons_of_mem _ (ih2 ⟨fun h => hn.1 (List.mem_cons_of_mem _ h), (List.nodup_cons.1 hn.2).2⟩ h)
      exact hn.1 (e ▸ this)
end
/-- A directory of a disk: each name with a file of its own. -/
structure GoodL (fs : List FS) (n : Nat) (l : List (ByteArray × Nat)) : Prop where
  fs : ∀ p ∈ l, ∃ f ∈ fs, f.g = p.2
  vals : (l.map (·.2)).Nodup
  keys : (l.map (·.1)).Nodup
  good : ∀ p ∈ l, badName p.1 = false
  len : l.length ≤ n
theorem GoodL.mono {fs fs' : List FS} {n n' : Nat} {l : List (ByteArray × Nat)} (h : GoodL fs n l) (hf : ∀ f ∈ fs, ∃ f' ∈ fs', f'.g = f.g) (hn : n ≤ n') : GoodL fs' n' l :=
  ⟨fun p hp => by
    obtain ⟨f, h1, h2⟩ := h.fs p hp
    obtain ⟨f', h3, h4⟩ := hf f h1
    exact ⟨f', h3, h4.trans h2⟩, h.vals, h.keys, h.good, Nat.le_trans h.len hn⟩
theorem GoodL.nil (fs : List FS) (n : Nat) : GoodL fs n [] := ⟨fun _ h => (by cases h), List.nodup_nil, List.nodup_nil, fun _ h => (by cases h), Nat.zero_le _⟩
theorem GoodL.put {fs : List FS} {n : Nat} {l : List (ByteArray × Nat)} (h : GoodL fs n l) {s : ByteArray} {g : Nat} (hg : g ∉ l.map (·.2)) (hf : ∃ f ∈ fs, f.g = g) (hb : badName s = false) : GoodL fs (n + 1) (putM l s g) :=
  ⟨fun p hp => by
    rcases mem_putM hp with rfl | hp
    · exact hf
    · exact h.fs p hp, putM_vals h.vals s hg, putM_keys h.keys s g, fun p hp => by
    rcases mem_putM hp with rfl | hp
    · exact hb
    · exact h.good p hp, Nat.le_trans (putM_len l s g) (Nat.succ_le_succ h.len)⟩
theorem GoodL.del {fs : List FS} {n : Nat} {l : List (ByteArray × Nat)} (h : GoodL fs n l) (s : ByteArray) : GoodL fs n (delM l s) :=
  ⟨fun p hp => h.fs p ((delM_sub l s).subset hp), ((delM_sub l s).map _).nodup h.vals, ((delM_sub l s).map _).nodup h.keys, fun p hp => h.good p ((delM_sub l s).subset hp), Nat.le_trans (delM_sub l s).length_le h.len⟩
theorem updF_g {fs : List FS} {g : Nat} {u : FS → FS} (hu : ∀ f, (u f).g = f.g) : ∀ f ∈ fs, ∃ f' ∈ updF fs g u, f'.g = f.g := fun f hf =>
  ⟨if f.g = g then u f else f, List.mem_map.2 ⟨f, hf, rfl⟩, by
    split
    · exact hu f
    · rfl⟩
theorem crF_sf {q : Nat} {f : FS} (hf : 0 ≤ f.safe ∧ f.safe ≤ f.bs.length) : 0 ≤ (crF q f).safe ∧ (crF q f).safe = (crF q f).bs.length ∧ (crF q f).bs.length ≤ f.bs.length := by
  have h1 : f.safe.toNat ≤ f.bs.length := by omega
  have h2 := nOf_le (q := q) h1
  have h3 : (crB q f).length = nOf q f := by
    unfold crB
    split
    · rw [List.length_set, List.length_take]; omega
    · rw [List.length_take]; omega
  exact ⟨by show (0 : Int) ≤ (nOf q f : Int); omega, by show (nOf q f : Int) = ((crB q f).length : Int); rw [h3], by show (crB q f).length ≤ _; omega⟩
/-- Whatever is called: n calls have been, each of k bytes at most. -/
structure Inv (d : DSt) (n k : Nat) : Prop where
  run : ∀ i, i ≤ d.chg.length → ∃ l, runM d.safe (d.chg.take i) = some l ∧ GoodL d.fs n l
  now : runM d.safe d.chg = some d.dir
  chg : d.chg.length ≤ n
  sf : ∀ f ∈ d.fs, 0 ≤ f.safe ∧ f.safe ≤ f.bs.length ∧ f.bs.length ≤ n * k
  quota : -9223372036854775808 ≤ d.quota ∧ d.quota ≤ 9223372036854775807
section
variable {d : DSt} {n k : Nat} (h : Inv d n k)
include h
theorem Inv.dir : GoodL d.fs n d.dir := by
  obtain ⟨l, h1, h2⟩ := h.run _ (Nat.le_refl _)
  rw [List.take_length, h.now] at h1
  injection h1 with h1
  exact h1 ▸ h2
theorem Inv.safe : GoodL d.fs n d.safe := by
  obtain ⟨l, h1, h2⟩ := h.run 0 (Nat.zero_le _)
  injection h1 with h1
  exact h1 ▸ h2
theorem Inv.ok : Ok d := h.dir.fs
theorem Inv.step {d' : DSt} {c : Chg} {l2 : List (ByteArray × Nat)} (h2 : doM d.dir c = some l2) (hs : d'.safe = d.safe) (hc : d'.chg = d.chg ++ [c]) (hd : d'.dir = l2) (hf : ∀ f ∈ d.fs, ∃ f' ∈ d'.fs, f'.g = f.g) (hg : GoodL d'.fs (n + 1) l2)
    (hsf : ∀ f ∈ d'.fs, 0 ≤ f.safe ∧ f.safe ≤ f.bs.length ∧ f.bs.length ≤ (n + 1) * k) (hq : -9223372036854775808 ≤ d'.quota ∧ d'.quota ≤ 9223372036854775807) : Inv d' (n + 1) k := by
  have hnow : runM d'.safe d'.chg = some l2 := by
    rw [hs, hc, runM_append, h.now]
    show (doM d.dir c).bind _ = _
    rw [h2]
    rfl
  refine ⟨fun i hi => ?_, by rw [hnow, hd], by rw [hc, List.length_append]; exact Nat.succ_le_succ h.chg, hsf, hq⟩
  rw [hc, List.length_append] at hi
  rcases Nat.lt_or_ge d.chg.length i with h1 | h1
  · have : i = (d.chg ++ [c]).length := by rw [List.length_append]; exact Nat.le_antisymm hi h1
    rw [this, hc, List.take_length, ← hc]
    exact ⟨l2, hnow, hg⟩
  · obtain ⟨l, h3, h4⟩ := h.run i h1
    exact ⟨l, by rw [hs, hc, List.take_append_of_le_length h1]; exact h3, h4.mono hf (Nat.le_succ n)⟩
/-- Files alone are turned. -/
theorem Inv.files {d' : DSt} (hs : d'.safe = d.safe) (hc : d'.chg = d.chg) (hd : d'.dir = d.dir) (hf : ∀ f ∈ d.fs, ∃ f' ∈ d'.fs, f'.g = f.g)
    (hsf : ∀ f ∈ d'.fs, 0 ≤ f.safe ∧ f.safe ≤ f.bs.length ∧ f.bs.length ≤ (n + 1) * k) (hq : -9223372036854775808 ≤ d'.quota ∧ d'.quota ≤ 9223372036854775807) : Inv d' (n + 1) k :=
  ⟨fun i hi => by
    rw [hc] at hi
    obtain ⟨l, h3, h4⟩ := h.run i hi
    exact ⟨l, by rw [hs, hc]; exact h3, h4.mono hf (Nat.le_succ n)⟩, by rw [hs, hc, hd]; exact h.now, by rw [hc]; exact Nat.le_succ_of_le h.chg, hsf, hq⟩
theorem Inv.sf1 : ∀ f ∈ d.fs, 0 ≤ f.safe ∧ f.safe ≤ f.bs.length ∧ f.bs.length ≤ (n + 1) * k := fun f hf => by
  obtain ⟨h1, h2, h3⟩ := h.sf f hf
  exact ⟨h1, h2, by rw [Nat.succ_mul]; omega⟩
theorem Inv.more : Inv d (n + 1) k := h.files rfl rfl rfl (fun f hf => ⟨f, hf, rfl⟩) h.sf1 h.quota
theorem newQ_ok (b : Nat) (hb : b ≤ 9000000000000000000) : -9223372036854775808 ≤ newQ d b ∧ newQ d b ≤ 9223372036854775807 := by
  have := h.quota
  unfold newQ
  split <;> omega
theorem Inv.add {name : ByteArray} {b : List Int} {g : Nat} {v1 vch1 : Value} (hg : ∀ f ∈ d.fs, f.g ≠ g) (hn : getM d.dir name = none) (hb : badName name = false) (hbl : b.length ≤ k) (hk : k ≤ 9000000000000000000) : Inv (addF d name b g v1 vch1) (n + 1) k := by
  have hng : g ∉ d.dir.map (·.2) := fun hm => by
    obtain ⟨p, hp, he⟩ := List.mem_map.1 hm
    obtain ⟨f, hf, hfe⟩ := h.dir.fs p hp
    exact hg f hf (hfe.trans he)
  have hff : ∀ f ∈ d.fs, ∃ f' ∈ d.fs ++ [(⟨g, v1, b, 0⟩ : FS)], f'.g = f.g := fun f hf => ⟨f, List.mem_append_left _ hf, rfl⟩
  refine h.step (c := ⟨0, name, ⟨#[]⟩, some g⟩) (l2 := putM d.dir name g) ?_ rfl rfl rfl hff ((h.dir.mono hff (Nat.le_refl n)).put hng ⟨_, List.mem_append_right _ (List.mem_singleton.2 rfl), rfl⟩ hb) (fun f hf => ?_) (newQ_ok h _ (by omega))
  · unfold doM
    rw [if_pos rfl]
    rfl
  · rcases List.mem_append.1 hf with hf | hf
    · exact h.sf1 f hf
    · obtain rfl := List.mem_singleton.1 hf
      exact ⟨Int.le_refl _, by simp only; omega, by simp only; rw [Nat.succ_mul]; omega⟩
theorem Inv.grow {f : FS} (hf : f ∈ d.fs) {b : List Int} {v1 : Value} (hbl : b.length ≤ k) (hk : k ≤ 9000000000000000000) : Inv (growF d f b v1) (n + 1) k := by
  refine h.files rfl rfl rfl (updF_g fun _ => rfl) (fun x hx => ?_) (newQ_ok h _ (by omega))
  obtain ⟨y, hy, ⟨_, rfl⟩ | ⟨_, rfl⟩⟩ := mem_updF hx
  · obtain ⟨h1, h2, h3⟩ := h.sf f hf
    refine ⟨h1, ?_, ?_⟩
    · simp only [List.length_append]; omega
    · simp only [List.length_append]; rw [Nat.succ_mul]; omega
  · exact h.sf1 _ hy
theorem Inv.sync {f : FS} (hf : f ∈ d.fs) : Inv { d with fs := updF d.fs f.g fun x => { x with v := f.v, bs := f.bs, safe := (f.bs.length : Int) } } (n + 1) k := by
  refine h.files rfl rfl rfl (updF_g fun _ => rfl) (fun x hx => ?_) h.quota
  obtain ⟨y, hy, ⟨_, rfl⟩ | ⟨_, rfl⟩⟩ := mem_updF hx
  · obtain ⟨h1, h2, h3⟩ := h.sf1 f hf
    exact ⟨by simp only; omega, Int.le_refl _, h3⟩
  · exact h.sf1 _ hy
theorem Inv.syncDir (nb : Nat) : Inv (syncD d nb) (n + 1) k :=
  ⟨fun i hi => by
    obtain rfl : i = 0 := Nat.le_zero.1 hi
    exact ⟨d.dir, rfl, h.dir.mono (fun f hf => ⟨f, hf, rfl⟩) (Nat.le_succ n)⟩, rfl, Nat.zero_le _, h.sf1, h.quota⟩
theorem Inv.quotaI (q : Int) (hq : -9223372036854775808 ≤ q ∧ q ≤ 9223372036854775807) : Inv { d with quota := q } (n + 1) k :=
  h.files rfl rfl rfl (fun f hf => ⟨f, hf, rfl⟩) h.sf1 hq
theorem Inv.ren {s t : ByteArray} {g : Nat} {v1 : Value} (hg : getM d.dir s = some g) (hb : badName t = false) : Inv (renD d s t g v1) (n + 1) k := by
  refine h.step (c := ⟨1, s, t, none⟩) (l2 := putM (delM d.dir s) t g) ?_ rfl rfl rfl (fun f hf => ⟨f, hf, rfl⟩) ((h.dir.del s).put (del_gone h.dir.vals hg) ?_ hb) h.sf1 h.quota
  · unfold doM
    rw [if_neg (show ¬ (1 : Int) = 0 by decide), if_pos rfl, hg]
    rfl
  · exact h.dir.fs _ (getM_mem hg)
theorem Inv.rem {s : ByteArray} {v1 : Value} : Inv (remD d s v1) (n + 1) k := by
  refine h.step (c := ⟨2, s, ⟨#[]⟩, none⟩) (l2 := delM d.dir s) ?_ rfl rfl rfl (fun f hf => ⟨f, hf, rfl⟩) ((h.dir.del s).mono (fun f hf => ⟨f, hf, rfl⟩) (Nat.le_succ n)) h.sf1 h.quota
  unfold doM
  rw [if_neg (show ¬ (2 : Int) = 0 by decide), if_neg (show ¬ (2 : Int) = 1 by decide), if_pos rfl]
theorem Inv.crash {P : Nat} {dirP : List (ByteArray × Nat)} (hdp : runM d.safe (d.chg.take (P % (d.chg.length + 1))) = some dirP) (q nb1 nb2 : Nat) : Inv (crashD d dirP q nb1 nb2) (n + 1) k := by
  obtain ⟨l, h1, h2⟩ := h.run (P % (d.chg.length + 1)) (Nat.le_of_lt_succ (Nat.mod_lt _ (Nat.succ_pos _)))
  rw [hdp] at h1
  injection h1 with h1
  subst h1
  have hfs : ∀ f ∈ d.fs, ∃ f' ∈ fsD q (dirP.map (·.2)) d.fs, f'.g = f.g := fun f hf => ⟨if f.g ∈ dirP.map (·.2) then crF q f else f, List.mem_map.2 ⟨f, hf, rfl⟩, by split <;> rfl⟩
  refine ⟨fun i hi => ?_, rfl, Nat.zero_le _, fun x hx => ?_, ⟨(by decide : (-9223372036854775808 : Int) ≤ -1), (by decide : (-1 : Int) ≤ 9223372036854775807)⟩⟩
  · obtain rfl : i = 0 := Nat.le_zero.1 hi
    exact ⟨dirP, rfl, h2.mono hfs (Nat.le_succ n)⟩
  · obtain ⟨f, hf, rfl⟩ := List.mem_map.1 hx
    obtain ⟨h1, h2, h3⟩ := h.sf1 f hf
    split
    · obtain ⟨c1, c2, c3⟩ := crF_sf (q := q) ⟨h1, h2⟩
      exact ⟨c1, Int.le_of_eq c2, Nat.le_trans c3 h3⟩
    · exact ⟨h1, h2, h3⟩
end
theorem Inv.new (gd bd bs : Nat) (vch : Value) (k : Nat) : Inv ⟨gd, bd, bs, vch, -1, [], [], [], []⟩ 0 k :=
  ⟨fun i hi => ⟨[], by simp [runM], GoodL.nil _ _⟩, rfl, Nat.le_refl _, fun f hf => (by cases hf), ⟨(by decide : (-9223372036854775808 : Int) ≤ -1), (by decide : (-1 : Int) ≤ 9223372036854775807)⟩⟩
theorem Inv.len_le {d : DSt} {n k : Nat} (h : Inv d n k) : ∀ f ∈ d.fs, f.bs.length ≤ n * k := fun f hf => (h.sf f hf).2.2
theorem Inv.sum {d : DSt} {n k : Nat} (h : Inv d n k) : sumL d d.dir ≤ n * (n * k) :=
  Nat.le_trans (sumL_le h.len_le d.dir) (Nat.mul_le_mul_right _ h.dir.len)
theorem Inv.fit {d : DSt} {n k : Nat} (h : Inv d n k) (hn : n ≤ 1000) (hk : k ≤ 100000) {b : Nat} (hb : b ≤ 100000000) : Fit d b := by
  have h1 := h.sum
  have h2 : n * (n * k) ≤ 1000 * (1000 * 100000) := Nat.mul_le_mul hn (Nat.mul_le_mul hn hk)
  exact ⟨h.ok, by omega, by have := h.chg; omega, by have := h.dir.len; omega, h.quota⟩
end Go.Proofs.Ytoninmgglcepmaa.Dk
