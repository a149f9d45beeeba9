/- What stays true of a disk, whatever is called: the plain law of directories and their changes. -/
import Derived.Test.YtoninmgglcepmaaDB
import Derived.Test.YtoninmgglcepmaaWFootNe
namespace Go.Proofs.Ytoninmgglcepmaa.Dk
open RegD Go.RowKit Go.ChangeMaps Go.Proofs.YtoninmgglcepmaaW.PrintWords Go.Proofs.YtoninmgglcepmaaW.PrintLast Go.Proofs.YtoninmgglcepmaaW.PrintMore Mp
set_option linter.unusedVariables false
set_option linter.unusedSimpArgs false
section
variable {α : Type}
theorem mem_putM {l : List (ByteArray × α)} {s : ByteArray} {v : α} {p : ByteArray × α} (h : p ∈ putM l s v) : p = (s, v) ∨ p ∈ l := by
  induction l with
  | nil => exact .inl (List.mem_singleton.1 h)
  | cons q l ih =>
    unfold putM at h
    split at h
    · rcases List.mem_cons.1 h with h | h
      · exact .inl h
      · exact .inr (List.mem_cons_of_mem _ h)
    · rcases List.mem_cons.1 h with h | h
      · exact .inr (h ▸ List.mem_cons_self ..)
      · exact (ih h).imp id (List.mem_cons_of_mem _)
theorem delM_sub (l : List (ByteArray × α)) (s : ByteArray) : (delM l s).Sublist l := by
  induction l with
  | nil => exact List.Sublist.refl _
  | cons q l ih =>
    unfold delM
    split
    · exact List.sublist_cons_self ..
    · exact ih.cons_cons _
theorem putM_len (l : List (ByteArray × α)) (s : ByteArray) (v : α) : (putM l s v).length ≤ l.length + 1 := by
  induction l with
  | nil => exact Nat.le_refl _
  | cons q l ih =>
    unfold putM
    split
    · simp
    · simpa using ih
theorem getM_put (l : List (ByteArray × α)) (s : ByteArray) (v : α) (t : ByteArray) : getM (putM l s v) t = if s = t then some v else getM l t := by
  induction l with
  | nil => simp [putM, getM]
  | cons q l ih =>
    unfold putM
    by_cases h : q.1 = s
    · rw [if_pos h]
      simp only [getM]
      by_cases h2 : s = t
      · rw [if_pos h2, if_pos h2]
      · rw [if_neg h2, if_neg h2, if_neg (h ▸ h2)]
    · rw [if_neg h]
      simp only [getM]
      by_cases h2 : q.1 = t
      · rw [if_pos h2, if_pos h2, if_neg (fun e => h (h2.trans e.symm))]
      · rw [if_neg h2, if_neg h2, ih]
theorem getM_none {l : List (ByteArray × α)} {s : ByteArray} : getM l s = none ↔ s ∉ l.map (·.1) := by
  induction l with
  | nil => simp [getM]
  | cons q l ih =>
    unfold getM
    by_cases h : q.1 = s
    · rw [if_pos h]; simp [h]
    · rw [if_neg h, ih]; simp [Ne.symm h]
theorem getM_del {l : List (ByteArray × α)} (hn : (l.map (·.1)).Nodup) (s t : ByteArray) : getM (delM l s) t = if s = t then none else getM l t := by
  induction l with
  | nil => simp [delM, getM]
  | cons q l ih =>
    rw [List.map_cons, List.nodup_cons] at hn
    unfold delM
    by_cases h : q.1 = s
    · rw [if_pos h]
      by_cases h2 : s = t
      · rw [if_pos h2]
        exact getM_none.2 (h2 ▸ h ▸ hn.1)
      · rw [if_neg h2]
        simp only [getM]
        rw [if_neg (h ▸ h2)]
    · rw [if_neg h]
      simp only [getM]
      by_cases h2 : q.1 = t
      · rw [if_pos h2, if_pos h2, if_neg (fun e => h (h2.trans e.symm))]
      · rw [if_neg h2, if_neg h2, ih hn.2]
theorem mem_getM {l : List (ByteArray × α)} (hn : (l.map (·.1)).Nodup) {s : ByteArray} {v : α} (h : (s, v) ∈ l) : getM l s = some v := by
  induction l with
  | nil => cases h
  | cons q l ih =>
    rw [List.map_cons, List.nodup_cons] at hn
    unfold getM
    rcases List.mem_cons.1 h with h | h
    · rw [← h, if_pos rfl]
    · rw [if_neg (fun e => hn.1 (List.mem_map.2 ⟨_, h, e.symm⟩)), ih hn.2 h]
theorem putM_keys {l : List (ByteArray × α)} (hn : (l.map (·.1)).Nodup) (s : ByteArray) (v : α) : ((putM l s v).map (·.1)).Nodup := by
  induction l with
  | nil => simp [putM]
  | cons q l ih =>
    rw [List.map_cons, List.nodup_cons] at hn
    unfold putM
    by_cases h : q.1 = s
    · rw [if_pos h, List.map_cons, List.nodup_cons]; exact ⟨h ▸ hn.1, hn.2⟩
    · rw [if_neg h, List.map_cons, List.nodup_cons]
      refine ⟨fun hm => ?_, ih hn.2⟩
      obtain ⟨p, hp, he⟩ := List.mem_map.1 hm
      rcases mem_putM hp with rfl | hp
      · exact h he.symm
      · exact hn.1 (List.mem_map.2 ⟨p, hp, he⟩)
theorem putM_vals {l : List (ByteArray × α)} (hn : (l.map (·.2)).Nodup) (s : ByteArray) {v : α} (hv : v ∉ l.map (·.2)) : ((putM l s v).map (·.2)).Nodup := by
  induction l with
  | nil => simp [putM]
  | cons q l ih =>
    rw [List.map_cons, List.nodup_cons] at hn
    have hv2 : v ∉ l.map (·.2) := fun h => hv (List.mem_cons_of_mem _ h)
    unfold putM
    by_cases h : q.1 = s
    · rw [if_pos h, List.map_cons, List.nodup_cons]; exact ⟨hv2, hn.2⟩
    · rw [if_neg h, List.map_cons, List.nodup_cons]
      refine ⟨fun hm => ?_, ih hn.2 hv2⟩
      obtain ⟨p, hp, he⟩ := List.mem_map.1 hm
      rcases mem_putM hp with rfl | hp
      · exact hv (by rw [List.map_cons]; exact (show v = q.2 from he) ▸ List.mem_cons_self ..)
      · exact hn.1 (List.mem_map.2 ⟨p, hp, he⟩)
theorem del_gone {l : List (ByteArray × α)} (hn : (l.map (·.2)).Nodup) {s : ByteArray} {v : α} (h : getM l s = some v) : v ∉ (delM l s).map (·.2) := by
  induction l with
  | nil => cases h
  | cons q l ih =>
    rw [List.map_cons, List.nodup_cons] at hn
    unfold getM at h
    unfold delM
    by_cases hc : q.1 = s
    · rw [if_pos hc] at h ⊢
      injection h with h
      exact h ▸ hn.1
    · rw [if_neg hc] at h ⊢
      rw [List.map_cons, List.mem_cons, not_or]
      refine ⟨fun e => ?_, ih hn.2 h⟩
      have : v ∈ l.map (·.2) := by
        clear ih
        induction l with
        | nil => cases h
        | cons q2 l ih2 =>
          unfold getM at h
          by_cases hc2 : q2.1 = s
          · rw [if_pos hc2] at h
            injection h with h
            rw [List.map_cons, h]
            exact List.mem_cons_self ..
          · rw [if_neg hc2] at h
            rw [List.map_cons] at hn ⊢
            exact List.mem_cons_of_mem _ (ih2 ⟨fun h => hn.1 (List.mem_cons_of_mem _ h), (List.nodup_cons.1 hn.2).2⟩ h)
      exact hn.1 (e ▸ this)
end
/-- A directory of a disk: each name with a file of its own. -/
structure GoodL (fs : List FS) (n : Nat) (l : List (ByteArray × Nat)) : Prop where
  fs : ∀ p ∈ l, ∃ f ∈ fs, f.g = p.2
  vals : (l.map (·.2)).Nodup
  keys : (l.map (·.1)).Nodup
  good : ∀ p ∈ l, badName p.1 = false
  len : l.length ≤ n
theorem GoodL.mono {fs fs' : List FS} {n n' : Nat} {l : List (ByteArray × Nat)} (h : GoodL fs n l) (hf : ∀ f ∈ fs, ∃ f' ∈ fs', f'.g = f.g) (hn : n ≤ n') : GoodL fs' n' l :=
  ⟨fun p hp => by
    obtain ⟨f, h1, h2⟩ := h.fs p hp
    obtain ⟨f', h3, h4⟩ := hf f h1
    exact ⟨f', h3, h4.trans h2⟩, h.vals, h.keys, h.good, Nat.le_trans h.len hn⟩
theorem GoodL.nil (fs : List FS) (n : Nat) : GoodL fs n [] := ⟨fun _ h => (by cases h), List.nodup_nil, List.nodup_nil, fun _ h => (by cases h), Nat.zero_le _⟩
theorem GoodL.put {fs : List FS} {n : Nat} {l : List (ByteArray × Nat)} (h : GoodL fs n l) {s : ByteArray} {g : Nat} (hg : g ∉ l.map (·.2)) (hf : ∃ f ∈ fs, f.g = g) (hb : badName s = false) : GoodL fs (n + 1) (putM l s g) :=
  ⟨fun p hp => by
    rcases mem_putM hp with rfl | hp
    · exact hf
    · exact h.fs p hp, putM_vals h.vals s hg, putM_keys h.keys s g, fun p hp => by
    rcases mem_putM hp with rfl | hp
    · exact hb
    · exact h.good p hp, Nat.le_trans (putM_len l s g) (Nat.succ_le_succ h.len)⟩
theorem GoodL.del {fs : List FS} {n : Nat} {l : List (ByteArray × Nat)} (h : GoodL fs n l) (s : ByteArray) : GoodL fs n (delM l s) :=
  ⟨fun p hp => h.fs p ((delM_sub l s).subset hp), ((delM_sub l s).map _).nodup h.vals, ((delM_sub l s).map _).nodup h.keys, fun p hp => h.good p ((delM_sub l s).subset hp), Nat.le_trans (delM_sub l s).length_le h.len⟩
theorem updF_g {fs : List FS} {g : Nat} {u : FS → FS} (hu : ∀ f, (u f).g = f.g) : ∀ f ∈ fs, ∃ f' ∈ updF fs g u, f'.g = f.g := fun f hf =>
  ⟨if f.g = g then u f else f, List.mem_map.2 ⟨f, hf, rfl⟩, by
    split
    · exact hu f
    · rfl⟩
theorem crF_sf {q : Nat} {f : FS} (hf : 0 ≤ f.safe ∧ f.safe ≤ f.bs.length) : 0 ≤ (crF q f).safe ∧ (crF q f).safe = (crF q f).bs.length ∧ (crF q f).bs.length ≤ f.bs.length := by
  have h1 : f.safe.toNat ≤ f.bs.length := by omega
  have h2 := nOf_le (q := q) h1
  have h3 : (crB q f).length = nOf q f := by
    unfold crB
    split
    · rw [List.length_set, List.length_take]; omega
    · rw [List.length_take]; omega
  exact ⟨by show (0 : Int) ≤ (nOf q f : Int); omega, by show (nOf q f : Int) = ((crB q f).length : Int); rw [h3], by show (crB q f).length ≤ _; omega⟩
/-- Whatever is called: n calls have been, each of k bytes at most. -/
structure Inv (d : DSt) (n k : Nat) : Prop where
  run : ∀ i, i ≤ d.chg.length → ∃ l, runM d.safe (d.chg.take i) = some l ∧ GoodL d.fs n l
  now : runM d.safe d.chg = some d.dir
  chg : d.chg.length ≤ n
  sf : ∀ f ∈ d.fs, 0 ≤ f.safe ∧ f.safe ≤ f.bs.length ∧ f.bs.length ≤ n * k
  quota : -9223372036854775808 ≤ d.quota ∧ d.quota ≤ 9223372036854775807
section
variable {d : DSt} {n k : Nat} (h : Inv d n k)
include h
theorem Inv.dir : GoodL d.fs n d.dir := by
  obtain ⟨l, h1, h2⟩ := h.run _ (Nat.le_refl _)
  rw [List.take_length, h.now] at h1
  injection h1 with h1
  exact h1 ▸ h2
theorem Inv.safe : GoodL d.fs n d.safe := by
  obtain ⟨l, h1, h2⟩ := h.run 0 (Nat.zero_le _)
  injection h1 with h1
  exact h1 ▸ h2
theorem Inv.ok : Ok d := h.dir.fs
theorem Inv.step {d' : DSt} {c : Chg} {l2 : List (ByteArray × Nat)} (h2 : doM d.dir c = some l2) (hs : d'.safe = d.safe) (hc : d'.chg = d.chg ++ [c]) (hd : d'.dir = l2) (hf : ∀ f ∈ d.fs, ∃ f' ∈ d'.fs, f'.g = f.g) (hg : GoodL d'.fs (n + 1) l2)
    (hsf : ∀ f ∈ d'.fs, 0 ≤ f.safe ∧ f.safe ≤ f.bs.length ∧ f.bs.length ≤ (n + 1) * k) (hq : -9223372036854775808 ≤ d'.quota ∧ d'.quota ≤ 9223372036854775807) : Inv d' (n + 1) k := by
  have hnow : runM d'.safe d'.chg = some l2 := by
    rw [hs, hc, runM_append, h.now]
    show (doM d.dir c).bind _ = _
    rw [h2]
    rfl
  refine ⟨fun i hi => ?_, by rw [hnow, hd], by rw [hc, List.length_append]; exact Nat.succ_le_succ h.chg, hsf, hq⟩
  rw [hc, List.length_append] at hi
  rcases Nat.lt_or_ge d.chg.length i with h1 | h1
  · have : i = (d.chg ++ [c]).length := by rw [List.length_append]; exact Nat.le_antisymm hi h1
    rw [this, hc, List.take_length, ← hc]
    exact ⟨l2, hnow, hg⟩
  · obtain ⟨l, h3, h4⟩ := h.run i h1
    exact ⟨l, by rw [hs, hc, List.take_append_of_le_length h1]; exact h3, h4.mono hf (Nat.le_succ n)⟩
/-- Files alone are turned. -/
theorem Inv.files {d' : DSt} (hs : d'.safe = d.safe) (hc : d'.chg = d.chg) (hd : d'.dir = d.dir) (hf : ∀ f ∈ d.fs, ∃ f' ∈ d'.fs, f'.g = f.g)
    (hsf : ∀ f ∈ d'.fs, 0 ≤ f.safe ∧ f.safe ≤ f.bs.length ∧ f.bs.length ≤ (n + 1) * k) (hq : -9223372036854775808 ≤ d'.quota ∧ d'.quota ≤ 9223372036854775807) : Inv d' (n + 1) k :=
  ⟨fun i hi => by
    rw [hc] at hi
    obtain ⟨l, h3, h4⟩ := h.run i hi
    exact ⟨l, by rw [hs, hc]; exact h3, h4.mono hf (Nat.le_succ n)⟩, by rw [hs, hc, hd]; exact h.now, by rw [hc]; exact Nat.le_succ_of_le h.chg, hsf, hq⟩
theorem Inv.sf1 : ∀ f ∈ d.fs, 0 ≤ f.safe ∧ f.safe ≤ f.bs.length ∧ f.bs.length ≤ (n + 1) * k := fun f hf => by
  obtain ⟨h1, h2, h3⟩ := h.sf f hf
  exact ⟨h1, h2, by rw [Nat.succ_mul]; omega⟩
theorem Inv.more : Inv d (n + 1) k := h.files rfl rfl rfl (fun f hf => ⟨f, hf, rfl⟩) h.sf1 h.quota
theorem newQ_ok (b : Nat) (hb : b ≤ 9000000000000000000) : -9223372036854775808 ≤ newQ d b ∧ newQ d b ≤ 9223372036854775807 := by
  have := h.quota
  unfold newQ
  split <;> omega
theorem Inv.add {name : ByteArray} {b : List Int} {g : Nat} {v1 vch1 : Value} (hg : ∀ f ∈ d.fs, f.g ≠ g) (hn : getM d.dir name = none) (hb : badName name = false) (hbl : b.length ≤ k) (hk : k ≤ 9000000000000000000) : Inv (addF d name b g v1 vch1) (n + 1) k := by
  have hng : g ∉ d.dir.map (·.2) := fun hm => by
    obtain ⟨p, hp, he⟩ := List.mem_map.1 hm
    obtain ⟨f, hf, hfe⟩ := h.dir.fs p hp
    exact hg f hf (hfe.trans he)
  have hff : ∀ f ∈ d.fs, ∃ f' ∈ d.fs ++ [(⟨g, v1, b, 0⟩ : FS)], f'.g = f.g := fun f hf => ⟨f, List.mem_append_left _ hf, rfl⟩
  refine h.step (c := ⟨0, name, ⟨#[]⟩, some g⟩) (l2 := putM d.dir name g) ?_ rfl rfl rfl hff ((h.dir.mono hff (Nat.le_refl n)).put hng ⟨_, List.mem_append_right _ (List.mem_singleton.2 rfl), rfl⟩ hb) (fun f hf => ?_) (newQ_ok h _ (by omega))
  · unfold doM
    rw [if_pos rfl]
    rfl
  · rcases List.mem_append.1 hf with hf | hf
    · exact h.sf1 f hf
    · obtain rfl := List.mem_singleton.1 hf
      exact ⟨Int.le_refl _, by simp only; omega, by simp only; rw [Nat.succ_mul]; omega⟩
theorem Inv.grow {f : FS} (hf : f ∈ d.fs) {b : List Int} {v1 : Value} (hbl : b.length ≤ k) (hk : k ≤ 9000000000000000000) : Inv (growF d f b v1) (n + 1) k := by
  refine h.files rfl rfl rfl (updF_g fun _ => rfl) (fun x hx => ?_) (newQ_ok h _ (by omega))
  obtain ⟨y, hy, ⟨_, rfl⟩ | ⟨_, rfl⟩⟩ := mem_updF hx
  · obtain ⟨h1, h2, h3⟩ := h.sf f hf
    refine ⟨h1, ?_, ?_⟩
    · simp only [List.length_append]; omega
    · simp only [List.length_append]; rw [Nat.succ_mul]; omega
  · exact h.sf1 _ hy
theorem Inv.sync {f : FS} (hf : f ∈ d.fs) : Inv { d with fs := updF d.fs f.g fun x => { x with v := f.v, bs := f.bs, safe := (f.bs.length : Int) } } (n + 1) k := by
  refine h.files rfl rfl rfl (updF_g fun _ => rfl) (fun x hx => ?_) h.quota
  obtain ⟨y, hy, ⟨_, rfl⟩ | ⟨_, rfl⟩⟩ := mem_updF hx
  · obtain ⟨h1, h2, h3⟩ := h.sf1 f hf
    exact ⟨by simp only; omega, Int.le_refl _, h3⟩
  · exact h.sf1 _ hy
theorem Inv.syncDir (nb : Nat) : Inv (syncD d nb) (n + 1) k :=
  ⟨fun i hi => by
    obtain rfl : i = 0 := Nat.le_zero.1 hi
    exact ⟨d.dir, rfl, h.dir.mono (fun f hf => ⟨f, hf, rfl⟩) (Nat.le_succ n)⟩, rfl, Nat.zero_le _, h.sf1, h.quota⟩
theorem Inv.quotaI (q : Int) (hq : -9223372036854775808 ≤ q ∧ q ≤ 9223372036854775807) : Inv { d with quota := q } (n + 1) k :=
  h.files rfl rfl rfl (fun f hf => ⟨f, hf, rfl⟩) h.sf1 hq
theorem Inv.ren {s t : ByteArray} {g : Nat} {v1 : Value} (hg : getM d.dir s = some g) (hb : badName t = false) : Inv (renD d s t g v1) (n + 1) k := by
  refine h.step (c := ⟨1, s, t, none⟩) (l2 := putM (delM d.dir s) t g) ?_ rfl rfl rfl (fun f hf => ⟨f, hf, rfl⟩) ((h.dir.del s).put (del_gone h.dir.vals hg) ?_ hb) h.sf1 h.quota
  · unfold doM
    rw [if_neg (show ¬ (1 : Int) = 0 by decide), if_pos rfl, hg]
    rfl
  · exact h.dir.fs _ (getM_mem hg)
theorem Inv.rem {s : ByteArray} {v1 : Value} : Inv (remD d s v1) (n + 1) k := by
  refine h.step (c := ⟨2, s, ⟨#[]⟩, none⟩) (l2 := delM d.dir s) ?_ rfl rfl rfl (fun f hf => ⟨f, hf, rfl⟩) ((h.dir.del s).mono (fun f hf => ⟨f, hf, rfl⟩) (Nat.le_succ n)) h.sf1 h.quota
  unfold doM
  rw [if_neg (show ¬ (2 : Int) = 0 by decide), if_neg (show ¬ (2 : Int) = 1 by decide), if_pos rfl]
theorem Inv.crash {P : Nat} {dirP : List (ByteArray × Nat)} (hdp : runM d.safe (d.chg.take (P % (d.chg.length + 1))) = some dirP) (q nb1 nb2 : Nat) : Inv (crashD d dirP q nb1 nb2) (n + 1) k := by
  obtain ⟨l, h1, h2⟩ := h.run (P % (d.chg.length + 1)) (Nat.le_of_lt_succ (Nat.mod_lt _ (Nat.succ_pos _)))
  rw [hdp] at h1
  injection h1 with h1
  subst h1
  have hfs : ∀ f ∈ d.fs, ∃ f' ∈ fsD q (dirP.map (·.2)) d.fs, f'.g = f.g := fun f hf => ⟨if f.g ∈ dirP.map (·.2) then crF q f else f, List.mem_map.2 ⟨f, hf, rfl⟩, by split <;> rfl⟩
  refine ⟨fun i hi => ?_, rfl, Nat.zero_le _, fun x hx => ?_, ⟨(by decide : (-9223372036854775808 : Int) ≤ -1), (by decide : (-1 : Int) ≤ 9223372036854775807)⟩⟩
  · obtain rfl : i = 0 := Nat.le_zero.1 hi
    exact ⟨dirP, rfl, h2.mono hfs (Nat.le_succ n)⟩
  · obtain ⟨f, hf, rfl⟩ := List.mem_map.1 hx
    obtain ⟨h1, h2, h3⟩ := h.sf1 f hf
    split
    · obtain ⟨c1, c2, c3⟩ := crF_sf (q := q) ⟨h1, h2⟩
      exact ⟨c1, Int.le_of_eq c2, Nat.le_trans c3 h3⟩
    · exact ⟨h1, h2, h3⟩
end
theorem Inv.new (gd bd bs : Nat) (vch : Value) (k : Nat) : Inv ⟨gd, bd, bs, vch, -1, [], [], [], []⟩ 0 k :=
  ⟨fun i hi => ⟨[], by simp [runM], GoodL.nil _ _⟩, rfl, Nat.le_refl _, fun f hf => (by cases hf), ⟨(by decide : (-9223372036854775808 : Int) ≤ -1), (by decide : (-1 : Int) ≤ 9223372036854775807)⟩⟩
theorem Inv.len_le {d : DSt} {n k : Nat} (h : Inv d n k) : ∀ f ∈ d.fs, f.bs.length ≤ n * k := fun f hf => (h.sf f hf).2.2
theorem Inv.sum {d : DSt} {n k : Nat} (h : Inv d n k) : sumL d d.dir ≤ n * (n * k) :=
  Nat.le_trans (sumL_le h.len_le d.dir) (Nat.mul_le_mul_right _ h.dir.len)
theorem Inv.fit {d : DSt} {n k : Nat} (h : Inv d n k) (hn : n ≤ 1000) (hk : k ≤ 100000) {b : Nat} (hb : b ≤ 100000000) : Fit d b := by
  have h1 := h.sum
  have h2 : n * (n * k) ≤ 1000 * (1000 * 100000) := Nat.mul_le_mul hn (Nat.mul_le_mul hn hk)
  exact ⟨h.ok, by omega, by have := h.chg; omega, by have := h.dir.len; omega, h.quota⟩
end Go.Proofs.Ytoninmgglcepmaa.Dk

namespace Go.Proofs.Ytoninmgglcepmaa.Dk
open Go.ChangeMaps hiding rd
open RegD Go.RowKit Go.Proofs.YtoninmgglcepmaaW.PrintWords Go.Proofs.YtoninmgglcepmaaW.PrintLast Go.Proofs.YtoninmgglcepmaaW.PrintMore Mp
attribute [local go_sem] max2_int min2_int max_two min_two max_three min_three max_four min_four
set_option linter.unusedVariables false
set_option linter.unusedSimpArgs false
/-! What a crash leaves of a file -/
theorem crB_len {q : Nat} {f : FS} (h : f.safe.toNat ≤ f.bs.length) : (crB q f).length = nOf q f := by
  have := nOf_le (q := q) h
  unfold crB
  split
  · rw [List.length_set, List.length_take]; omega
  · rw [List.length_take]; omega
theorem crB_take {q : Nat} {f : FS} (h : f.safe.toNat ≤ f.bs.length) : (crB q f).take f.safe.toNat = f.bs.take f.safe.toNat := by
  have hn : f.safe.toNat ≤ nOf q f := by unfold nOf; omega
  unfold crB
  split
  · next hc =>
    rw [List.take_set_of_le (by unfold nOf at *; omega), List.take_take, Nat.min_eq_left hn]
  · rw [List.take_take, Nat.min_eq_left hn]
theorem crB_get {q : Nat} {f : FS} (h : f.safe.toNat ≤ f.bs.length) (i : Nat) (hi : i < nOf q f) : rd (crB q f) (i : Int) = rd f.bs (i : Int) ∨ (i = nOf q f - 1 ∧ rd (crB q f) (i : Int) = bits .xor .u8 (rd f.bs (i : Int)) 85) := by
  have hn := nOf_le (q := q) h
  have ht : ∀ j : Nat, j < nOf q f → rd (f.bs.take (nOf q f)) (j : Int) = rd f.bs (j : Int) := fun j hj => by
    unfold rd
    rw [Int.toNat_natCast, List.getD_eq_getElem?_getD, List.getD_eq_getElem?_getD, List.getElem?_take, if_pos hj]
  unfold crB
  split
  · next hc =>
    by_cases hl : i = nOf q f - 1
    · right
      refine ⟨hl, ?_⟩
      have h2 : ((nOf q f : Int) - 1) = ((nOf q f - 1 : Nat) : Int) := by omega
      rw [h2, ht _ (by omega), hl]
      unfold rd
      rw [Int.toNat_natCast, List.getD_eq_getElem?_getD, List.getElem?_set_self (by rw [List.length_take]; omega)]
      rfl
    · left
      rw [← ht i hi]
      unfold rd
      rw [Int.toNat_natCast, List.getD_eq_getElem?_getD, List.getElem?_set_ne (fun he => hl he.symm)]
      exact (List.getD_eq_getElem?_getD ..).symm
  · left
    exact ht i hi
theorem crF_safe {q : Nat} {f : FS} (h : f.safe.toNat ≤ f.bs.length) : (crF q f).safe = ((crF q f).bs.length : Int) := by
  show (nOf q f : Int) = ((crB q f).length : Int)
  rw [crB_len h]
theorem crB_again {q q2 : Nat} {f : FS} (h : f.safe.toNat ≤ f.bs.length) : crB q2 (crF q f) = crB q f := by
  have hs : (crF q f).safe.toNat = (crF q f).bs.length := by rw [crF_safe h]; rfl
  have hk : kOf q2 (crF q f) = 0 := by unfold kOf; rw [hs, Nat.sub_self]; exact Nat.mod_one _
  have hn : nOf q2 (crF q f) = (crF q f).bs.length := by unfold nOf; rw [hk, hs]; rfl
  unfold crB
  rw [hk, if_neg (by omega), hn, List.take_length]
  rfl
def nF : ByteArray := ⟨#[102]⟩
def nG : ByteArray := ⟨#[103]⟩
theorem nFG : nF ≠ nG := by decide +kernel
theorem badF : badName nF = false := by decide +kernel
theorem badG : badName nG = false := by decide +kernel
/-- Bytes that came in: they are no part of a disk that is new since. -/
theorem St.came {w0 w : World} {d : DSt} (h : St w0 w d) {A : Option Addr} {b : List Int} (hc : Kd.C (Kd.int .u8) w0 A b.length b) : Bytes w d A b :=
  ⟨Kd.C_below hc h.below, fun hp ad he => by
    subst he
    have hl := Kd.C_lt hc hp (by decide)
    exact ⟨Nat.lt_of_lt_of_le hl h.kept.1, fun hF => by have := h.own _ hF; omega⟩⟩
/-- A crash where both files were there: what the two disks' names may be. -/
theorem pick_two {P : Nat} {F G : ByteArray} {g g2 : Nat} (hFG : F ≠ G) (hg : g ≠ g2) {e : ByteArray} :
    ∃ dirP, runM [(F, g)] (([⟨0, G, e, some g2⟩] : List Chg).take (P % (([⟨0, G, e, some g2⟩] : List Chg).length + 1))) = some dirP ∧ (dirP = [(F, g)] ∨ dirP = [(F, g), (G, g2)]) := by
  have h2 : P % 2 = 0 ∨ P % 2 = 1 := by omega
  rcases h2 with h2 | h2
  · exact ⟨[(F, g)], by rw [show P % (([⟨0, G, e, some g2⟩] : List Chg).length + 1) = 0 from h2]; rfl, .inl rfl⟩
  · refine ⟨[(F, g), (G, g2)], ?_, .inr rfl⟩
    rw [show P % (([⟨0, G, e, some g2⟩] : List Chg).length + 1) = 1 from h2]
    simp [runM, doM, putM, hFG]
theorem range64 {n : Int} (h : (Lit.int .i64 n).wf = true) : -9223372036854775808 ≤ n ∧ n ≤ 9223372036854775807 := by
  have h2 : IntKind.i64.min ≤ n ∧ n ≤ 9223372036854775807 := by simpa [Lit.wf] using h
  have h3 : IntKind.i64.min = -9223372036854775808 := by decide
  omega
/-- The first 200 bytes of what came in. -/
theorem came_cut {W : World} {A : Option Addr} {a x : List Int} (hr : Kd.C (Kd.int .u8) W A a.length a) (hx : x = a.take 200) : Kd.C (Kd.int .u8) W A x.length x := by
  have := Kd.C_of_reads (d := (0 : Int)) (h1 := fun _ => rfl) ((Kd.reads_of_C (enc := Value.int .u8) (d := (0 : Int)) (h1 := fun _ => rfl) hr).take_ x.length (by rw [hx, List.length_take]; omega))
  rw [hx, List.length_take] at this ⊢
  rw [show a.take (min 200 a.length) = a.take 200 from by rw [← List.take_take, List.take_length]] at this
  exact this
set_option maxRecDepth 100000 in
theorem cut_cases {A : Option Addr} {c : Nat} {a x : List Int} (hx : x = a.take 200) (hc : a.length ≤ c) :
    (decide ((200 : Int) < (a.length : Int)) = true ∧ ∀ w : World, (Instr.slice 29 (.slice A a.length c) none (some (.int .i64 200)) none).run Try.prog w = .ok (.slice A x.length c) w) ∨ (decide ((200 : Int) < (a.length : Int)) = false ∧ x = a) := by
  by_cases h : 200 < a.length
  · refine .inl ⟨decide_eq_true (by omega), fun w => ?_⟩
    rw [cut_to (P := Try.prog) 29 5 .i64 Try.underlying29 (i := _) rfl A a.length c 200 (by omega) (by omega) hc w, hx, List.length_take, Nat.min_eq_left (by omega)]
    rfl
  · exact .inr ⟨decide_eq_false (by omega), by rw [hx, List.take_of_length_le (by omega)]⟩
end Go.Proofs.Ytoninmgglcepmaa.Dk

namespace Go.Proofs.Ytoninmgglcepmaa.Dk
open Go.ChangeMaps hiding rd
open RegD Go.RowKit Go.Proofs.YtoninmgglcepmaaW.PrintWords Go.Proofs.YtoninmgglcepmaaW.PrintLast Go.Proofs.YtoninmgglcepmaaW.PrintMore Mp
set_option linter.unusedVariables false
set_option linter.unusedSimpArgs false
/-- From one disk to another: what else lay there has not turned. -/
structure Goes (w : World) (d : DSt) (w' : World) (d' : DSt) : Prop where
  kept : Kept w w' (Foot d)
  foot : ∀ k, Foot d' k → Foot d k ∨ w.heap.size ≤ k
  gd : d'.gd = d.gd
theorem Goes.refl (w : World) (d : DSt) : Goes w d w d := ⟨Kept.refl _ _, fun _ h => .inl h, rfl⟩
theorem Goes.of_below {w w' : World} (d : DSt) (h : Below w.heap.size w w') : Goes w d w' d := ⟨Kept.of_below h _, fun _ h => .inl h, rfl⟩
theorem Goes.trans {w w1 w2 : World} {d d1 d2 : DSt} (h : Goes w d w1 d1) (k : Goes w1 d1 w2 d2) : Goes w d w2 d2 :=
  ⟨h.kept.then_ k.kept h.foot, fun x hx => (k.foot x hx).elim (h.foot x) (fun hs => .inr (Nat.le_trans h.kept.size hs)), k.gd.trans h.gd⟩
theorem St.goes {w0 w w' : World} {d d' : DSt} (h : St w0 w d) (hd : DiskAt w' d') (hg : Goes w d w' d') : St w0 w' d' := h.step hd hg.kept hg.foot
/-- A block beside a disk. -/
def Off (w : World) (d : DSt) (k : Nat) : Prop := k < w.heap.size ∧ ¬ Foot d k
theorem Off.goes {w w' : World} {d d' : DSt} {k : Nat} (h : Off w d k) (hg : Goes w d w' d') : Off w' d' k :=
  ⟨Nat.lt_of_lt_of_le h.1 hg.kept.size, fun hF => (hg.foot k hF).elim h.2 (fun hs => absurd h.1 (Nat.not_lt.2 hs))⟩
theorem Off.same {w w' : World} {d d' : DSt} {k : Nat} (h : Off w d k) (hg : Goes w d w' d') : w'.heap[k]? = w.heap[k]? := hg.kept.block k h.1 h.2
/-- A row beside a disk. -/
structure Row {α : Type} (c : Kd α) (e : Nat) (w : World) (d : DSt) (v : Value) (xs : List α) : Prop where
  r : c.R e w 0 (fun _ => True) v xs
  off : ∀ k, v.ownBlock = some k → ¬ Foot d k
theorem Row.at_off {α : Type} {c : Kd α} {e : Nat} {w : World} {d : DSt} {v : Value} {xs : List α} (h : Row c e w d v xs) {k : Nat} (hk : v.ownBlock = some k) : Off w d k := ⟨Kd.R_lt h.r k hk, h.off k hk⟩
theorem Row.goes {α : Type} {c : Kd α} (hE : c.E = []) {e : Nat} {w w' : World} {d d' : DSt} {v : Value} {xs : List α} (h : Row c e w d v xs) (hg : Goes w d w' d') : Row c e w' d' v xs :=
  ⟨row_same hE h.r (fun k hk => (h.at_off hk).same hg), fun k hk => ((h.at_off hk).goes hg).2⟩
/-- A row that a call has made. -/
theorem Row.new {α : Type} {c : Kd α} {e : Nat} {w w' : World} {d d' : DSt} {v : Value} {xs : List α} (hd : DiskAt w d) (hr : c.R e w' w.heap.size (fun _ => True) v xs) : Row c e w' d v xs :=
  ⟨Kd.R_lower hr (Nat.zero_le _), fun k hk hF => by
    have h1 := hd.foot hF
    have h2 := Kd.R_base hr k hk
    omega⟩
theorem Bytes.goes {w w' : World} {d d' : DSt} {A : Option Addr} {b : List Int} (h : Bytes w d A b) (hg : Goes w d w' d') : Bytes w' d' A b :=
  ⟨C_same h.c (fun hp ad he => Off.same (h.off hp ad he) hg), fun hp ad he => Off.goes (h.off hp ad he) hg⟩
theorem Row.bytes {w : World} {d : DSt} {A : Option Addr} {n c : Nat} {xs : List Int} (h : Row (Kd.int .u8) 5 w d (.slice A n c) xs) : n = xs.length ∧ Bytes w d A xs := by
  obtain ⟨h1, h2, h3⟩ := Kd.R_reads' h.r
  refine ⟨h1, h3, fun hp ad he => ?_⟩
  subst he
  exact ⟨Kd.C_lt h3 hp (by decide), h.off _ rfl⟩
/-! What each call leaves -/
def App (d : DSt) (s : ByteArray) (b : List Int) (d' : DSt) : Prop :=
  (appE d s b.length ≠ 0 ∧ d' = d) ∨ (appE d s b.length = 0 ∧ ∃ f v1, f ∈ d.fs ∧ getM d.dir s = some f.g ∧ d' = growF d f b v1) ∨
  (appE d s b.length = 0 ∧ getM d.dir s = none ∧ ∃ g v1 vch1, (∀ f ∈ d.fs, f.g ≠ g) ∧ d' = addF d s b g v1 vch1)
theorem appE_good {d : DSt} {s : ByteArray} {n : Nat} (h : appE d s n = 0) : badName s = false := by
  unfold appE at h
  split at h
  · cases h
  · next hb => simpa using hb
section
variable {w : World} {d : DSt} {n k : Nat} (h : DiskAt w d) (hi : Inv d n k) (hn : n ≤ 1000) (hk : k ≤ 100000)
include h hi hn hk
theorem appG {s : ByteArray} {A : Option Addr} {cp : Nat} {b : List Int} (hb : Bytes w d A b) (hbl : b.length ≤ k) : Calls Try.prog 13 #[.pointer (some ⟨d.gd, 0, none⟩), .string s, .slice A b.length cp] w fun e w' =>
    e = .returned (.int .i64 (appE d s b.length)) ∧ ∃ d', App d s b d' ∧ DiskAt w' d' ∧ Goes w d w' d' ∧ Inv d' (n + 1) k := by
  have hf := hi.fit hn hk (b := b.length) (by omega)
  refine (appendC h hf.ok s A cp b hb.c hf.sum hf.chg hf.dir hf.quota hb.off).mono fun e w' ⟨he, hh⟩ => ⟨he, ?_⟩
  rcases hh with ⟨hc, hD, hB⟩ | ⟨hc, d', hA, hD, hK, hF⟩
  · exact ⟨d, .inl ⟨hc, rfl⟩, hD, Goes.of_below d hB, hi.more⟩
  · rcases hA with ⟨f, v1, hm, hg, rfl⟩ | ⟨g, v1, vch1, hn1, hg, rfl⟩
    · exact ⟨growF d f b v1, .inr (.inl ⟨hc, f, v1, hm, hg, rfl⟩), hD, ⟨hK, hF, rfl⟩, hi.grow hm hbl (by omega)⟩
    · exact ⟨addF d s b g v1 vch1, .inr (.inr ⟨hc, hn1, g, v1, vch1, hg, rfl⟩), hD, ⟨hK, hF, rfl⟩, hi.add hg hn1 (appE_good hc) hbl (by omega)⟩
end
theorem good_size {s : ByteArray} (h : badName s = false) : s.size ≤ 30 := by
  unfold badName at h
  rw [Bool.or_eq_false_iff] at h
  have := of_decide_eq_false h.2
  omega
/-- What Read tells. -/
def bytesOf (d : DSt) (s : ByteArray) : List Int :=
  match (findR d s).1 with
  | none => []
  | some g => ((d.fs.find? fun f => decide (f.g = g)).map (·.bs)).getD []
theorem find_fs {d : DSt} (hg : ∀ f ∈ d.fs, ∀ f' ∈ d.fs, f.g = f'.g → f = f') {f : FS} (hf : f ∈ d.fs) : d.fs.find? (fun x => decide (x.g = f.g)) = some f := by
  cases hx : d.fs.find? fun x => decide (x.g = f.g) with
  | none => exact absurd (List.find?_eq_none.1 hx f hf) (by simp)
  | some x =>
    have h1 := List.mem_of_find?_eq_some hx
    have h2 : x.g = f.g := by simpa using List.find?_some hx
    rw [hg x h1 f hf h2]
theorem bytesOf_file {w : World} {d : DSt} (h : DiskAt w d) {s : ByteArray} {f : FS} (hf : f ∈ d.fs) (hs : (findR d s).1 = some f.g) : bytesOf d s = f.bs := by
  unfold bytesOf
  rw [hs]
  simp only
  rw [find_fs h.hg hf]
  rfl
section
variable {w : World} {d : DSt} {n k : Nat} (h : DiskAt w d) (hi : Inv d n k)
include h hi
theorem readG (hn : n ≤ 1000) (hk : k ≤ 100000) (s : ByteArray) : Calls Try.prog 14 #[.pointer (some ⟨d.gd, 0, none⟩), .string s] w fun e w' =>
    ∃ v : Value, e = .returned (.tuple #[v, .int .i64 (findR d s).2]) ∧ Row (Kd.int .u8) 5 w' d v (bytesOf d s) ∧ DiskAt w' d ∧ Goes w d w' d := by
  cases hs : (findR d s).1 with
  | none =>
    refine (readNo h s hs).mono fun e w' ⟨he, hB⟩ => ⟨_, he, ⟨?_, fun k hk => (by cases hk)⟩, h.below hB, Goes.of_below d hB⟩
    unfold bytesOf
    rw [hs]
    exact Kd.R_nil _ _ _ _ _
  | some g =>
    obtain ⟨f, hf, rfl, _⟩ := find_mem hi.ok hs
    have hl := hi.len_le f hf
    have : n * k ≤ 1000 * 100000 := Nat.mul_le_mul hn hk
    rw [bytesOf_file h hf hs, find_some hs]
    exact (readOk h s hf hs (by omega)).mono fun e w' ⟨v, he, hR, hB⟩ => ⟨v, he, Row.new (d' := d) h hR, h.below hB, Goes.of_below d hB⟩
/-- What Sync leaves. -/
def Syn (d : DSt) (s : ByteArray) (d' : DSt) : Prop :=
  ((findR d s).1 = none ∧ d' = d) ∨ ∃ f ∈ d.fs, (findR d s).1 = some f.g ∧ d' = { d with fs := updF d.fs f.g fun x => { x with v := f.v, bs := f.bs, safe := (f.bs.length : Int) } }
theorem syncG (s : ByteArray) : Calls Try.prog 16 #[.pointer (some ⟨d.gd, 0, none⟩), .string s] w fun e w' =>
    e = .returned (.int .i64 (findR d s).2) ∧ ∃ d', Syn d s d' ∧ DiskAt w' d' ∧ Goes w d w' d' ∧ Inv d' (n + 1) k := by
  cases hs : (findR d s).1 with
  | none => exact (syncNo h s hs).mono fun e w' ⟨he, hB⟩ => ⟨he, d, .inl ⟨hs, rfl⟩, h.below hB, Goes.of_below d hB, hi.more⟩
  | some g =>
    obtain ⟨f, hf, rfl, _⟩ := find_mem hi.ok hs
    rw [find_some hs]
    refine (syncOk h s hf hs).mono fun e w' ⟨he, hD, hK⟩ => ⟨he, _, .inr ⟨f, hf, hs, rfl⟩, hD, ⟨hK, fun k hk => .inl ?_, rfl⟩, hi.sync hf⟩
    rcases hk with hk | hk | hk | hk | ⟨x, hx, hk⟩
    · exact .inl hk
    · exact .inr (.inl hk)
    · exact .inr (.inr (.inl hk))
    · exact .inr (.inr (.inr (.inl hk)))
    · obtain ⟨f', hf', ⟨e1, rfl⟩ | ⟨e1, rfl⟩⟩ := mem_updF hx
      · rcases hk with hk | hk
        · exact .inr (.inr (.inr (.inr ⟨f', hf', .inl hk⟩)))
        · exact .inr (.inr (.inr (.inr ⟨f, hf, .inr hk⟩)))
      · exact .inr (.inr (.inr (.inr ⟨_, hf', hk⟩)))
/-- What Rename leaves. -/
def Ren (d : DSt) (s t : ByteArray) (d' : DSt) : Prop :=
  ((badName t = true ∨ (findR d s).1 = none) ∧ d' = d) ∨ (badName t = false ∧ ∃ g v1, (findR d s).1 = some g ∧ d' = renD d s t g v1)
theorem renG (hn : n ≤ 1000) (s t : ByteArray) : Calls Try.prog 19 #[.pointer (some ⟨d.gd, 0, none⟩), .string s, .string t] w fun e w' =>
    e = .returned (.int .i64 (renE d s t)) ∧ ∃ d', Ren d s t d' ∧ DiskAt w' d' ∧ Goes w d w' d' ∧ Inv d' (n + 1) k := by
  by_cases hc : badName t = true ∨ (findR d s).1 = none
  · exact (renameNo h s t hc).mono fun e w' ⟨he, hB⟩ => ⟨he, d, .inl ⟨hc, rfl⟩, h.below hB, Goes.of_below d hB, hi.more⟩
  · rw [not_or] at hc
    have hb : badName t = false := by simpa using hc.1
    cases hs : (findR d s).1 with
    | none => exact absurd hs hc.2
    | some g =>
      have he0 : renE d s t = 0 := by unfold renE; rw [if_neg hc.1, find_some hs]
      rw [he0]
      exact (renameOk h s t hb hs (by have := hi.chg; omega)).mono fun e w' ⟨he, v1, hD, hK, hF⟩ => ⟨he, _, .inr ⟨hb, g, v1, hs, rfl⟩, hD, ⟨hK, hF, rfl⟩, hi.ren (find_get hs).2 hb⟩
/-- What Remove leaves. -/
def Rem (d : DSt) (s : ByteArray) (d' : DSt) : Prop := ((findR d s).1 = none ∧ d' = d) ∨ ∃ g v1, (findR d s).1 = some g ∧ d' = remD d s v1
theorem remG (hn : n ≤ 1000) (s : ByteArray) : Calls Try.prog 21 #[.pointer (some ⟨d.gd, 0, none⟩), .string s] w fun e w' =>
    e = .returned (.int .i64 (findR d s).2) ∧ ∃ d', Rem d s d' ∧ DiskAt w' d' ∧ Goes w d w' d' ∧ Inv d' (n + 1) k := by
  cases hs : (findR d s).1 with
  | none => exact (removeNo h s hs).mono fun e w' ⟨he, hB⟩ => ⟨he, d, .inl ⟨hs, rfl⟩, h.below hB, Goes.of_below d hB, hi.more⟩
  | some g =>
    rw [find_some hs]
    exact (removeOk h s hs (by have := hi.chg; omega)).mono fun e w' ⟨he, v1, hD, hK, hF⟩ => ⟨he, _, .inr ⟨g, v1, hs, rfl⟩, hD, ⟨hK, hF, rfl⟩, hi.rem⟩
theorem syncDirG : Calls Try.prog 17 #[.pointer (some ⟨d.gd, 0, none⟩)] w fun e w' =>
    e = .returned (.tuple #[]) ∧ ∃ nb, DiskAt w' (syncD d nb) ∧ Goes w d w' (syncD d nb) ∧ Inv (syncD d nb) (n + 1) k := by
  refine (syncDirC h).mono fun e w' ⟨he, hD, hK⟩ => ⟨he, _, hD, ⟨hK, fun k hk => ?_, rfl⟩, hi.syncDir _⟩
  rcases hk with hk | hk | hk | hk | hk
  · exact .inl (.inl hk)
  · exact .inl (.inr (.inl hk))
  · exact .inr (Nat.le_of_eq hk.symm)
  · cases hk
  · exact .inl (.inr (.inr (.inr (.inr hk))))
theorem quotaG (q : Int) (hq : -9223372036854775808 ≤ q ∧ q ≤ 9223372036854775807) : Calls Try.prog 12 #[.pointer (some ⟨d.gd, 0, none⟩), .int .i64 q] w fun e w' =>
    e = .returned (.tuple #[]) ∧ DiskAt w' { d with quota := q } ∧ Goes w d w' { d with quota := q } ∧ Inv { d with quota := q } (n + 1) k := by
  refine (quotaC h q).mono fun e w' ⟨he, hw⟩ => ⟨he, ?_⟩
  subst hw
  exact ⟨h.put_quota q, ⟨Kept.of_grown (grown_set (Below.refl _ _) d.gd 3 _) (Kept.refl _ _) (fun k hk => by injection hk with hk; exact .inl (.inl hk.symm)), fun k hk => .inl hk, rfl⟩, hi.quotaI q hq⟩
theorem crashG (hn : n ≤ 1000) (hk : k ≤ 100000) (pick : Int) (P : Nat) (hp : (P : Int) = if pick < 0 then -(pick + 1) else pick) (hpb : -9223372036854775808 ≤ pick ∧ pick ≤ 9223372036854775807) : Calls Try.prog 18 #[.pointer (some ⟨d.gd, 0, none⟩), .int .i64 pick] w fun e w' =>
    e = .returned (.tuple #[]) ∧ ∃ dirP nb1 nb2, runM d.safe (d.chg.take (P % (d.chg.length + 1))) = some dirP ∧ GoodL d.fs n dirP ∧
      DiskAt w' (crashD d dirP (P / (d.chg.length + 1)) nb1 nb2) ∧ Goes w d w' (crashD d dirP (P / (d.chg.length + 1)) nb1 nb2) ∧ Inv (crashD d dirP (P / (d.chg.length + 1)) nb1 nb2) (n + 1) k := by
  obtain ⟨dirP, h1, h2⟩ := hi.run (P % (d.chg.length + 1)) (Nat.le_of_lt_succ (Nat.mod_lt _ (Nat.succ_pos _)))
  have hnk : n * k ≤ 1000 * 100000 := Nat.mul_le_mul hn hk
  refine (crashC h pick P hp hpb (by have := hi.chg; omega) hi.now h1 h2.fs h2.vals (fun f hf => ?_)).mono fun e w' ⟨he, nb1, nb2, hn1, hn2, hD, hK⟩ => ⟨he, dirP, nb1, nb2, h1, h2, hD, ⟨hK, fun k hk => ?_, rfl⟩, hi.crash h1 _ _ _⟩
  · obtain ⟨a, b, c⟩ := hi.sf f hf
    exact ⟨a, b, by omega⟩
  · rcases hk with hk | hk | hk | hk | ⟨x, hx, hk⟩
    · exact .inl (.inl hk)
    · exact .inr (by rw [hk]; exact hn1)
    · exact .inr (by rw [hk]; exact hn2)
    · cases hk
    · refine .inl (foot_fsD (q := P / (d.chg.length + 1)) (S := dirP.map (fun x : ByteArray × Nat => x.2)) (d := d) (.inr (.inr (.inr (.inr ⟨x, hx, hk⟩)))))
theorem listG (hn : n ≤ 1000) : Calls Try.prog 20 #[.pointer (some ⟨d.gd, 0, none⟩)] w fun e w' =>
    ∃ v : Value, e = .returned v ∧ Row Kd.string 9 w' d v (sortL (d.dir.map (·.1))) ∧ (v = .slice none 0 0 ↔ d.dir = []) ∧ DiskAt w' d ∧ Goes w d w' d :=
  (listC h hi.dir.keys (fun p hp => by
    have h1 := hi.dir.good p hp
    unfold badName at h1
    rw [Bool.or_eq_false_iff] at h1
    have h2 := of_decide_eq_false h1.2
    have : maxLen = 9223372036854775807 := rfl
    omega) (by have := hi.dir.len; omega)).mono fun e w' ⟨v, he, hR, hv, hB⟩ => ⟨v, he, Row.new (d' := d) h hR, hv, h.below hB, Goes.of_below d hB⟩
end
end Go.Proofs.Ytoninmgglcepmaa.Dk
