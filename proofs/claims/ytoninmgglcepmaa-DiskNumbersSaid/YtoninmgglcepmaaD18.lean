/- Each call of a disk, in all its ways: what it answers, what it leaves, what lies beside it. -/
import Derived.Test.YtoninmgglcepmaaD16
namespace Go.Proofs.Ytoninmgglcepmaa.Dk
open Go.ChangeMaps hiding rd
open RegD Go.RowKit Go.Proofs.YtoninmgglcepmaaW.PrintWords Go.Proofs.YtoninmgglcepmaaW.PrintLast Go.Proofs.YtoninmgglcepmaaW.PrintMore Mp
set_option linter.unusedVariables false
set_option linter.unusedSimpArgs false
/-- From one disk to another: what else lay there has not turned. -/
structure Goes (w : World) (d : DSt) (w' : World) (d' : DSt) : Prop where
  kept : Kept w w' (Foot d)
  foot : ∀ k, Foot d' k → Foot d k ∨ w.heap.size ≤ k
  gd : d'.gd = d.gd
theorem Goes.refl (w : World) (d : DSt) : Goes w d w d := ⟨Kept.refl _ _, fun _ h => .inl h, rfl⟩
theorem Goes.of_below {w w' : World} (d : DSt) (h : Below w.heap.size w w') : Goes w d w' d := ⟨Kept.of_below h _, fun _ h => .inl h, rfl⟩
theorem Goes.trans {w w1 w2 : World} {d d1 d2 : DSt} (h : Goes w d w1 d1) (k : Goes w1 d1 w2 d2) : Goes w d w2 d2 :=
  ⟨h.kept.then_ k.kept h.foot, fun x hx => (k.foot x hx).elim (h.foot x) (fun hs => .inr (Nat.le_trans h.kept.size hs)), k.gd.trans h.gd⟩
theorem St.goes {w0 w w' : World} {d d' : DSt} (h : St w0 w d) (hd : DiskAt w' d') (hg : Goes w d w' d') : St w0 w' d' := h.step hd hg.kept hg.foot
/-- A block beside a disk. -/
def Off (w : World) (d : DSt) (k : Nat) : Prop := k < w.heap.size ∧ ¬ Foot d k
theorem Off.goes {w w' : World} {d d' : DSt} {k : Nat} (h : Off w d k) (hg : Goes w d w' d') : Off w' d' k :=
  ⟨Nat.lt_of_lt_of_le h.1 hg.kept.size, fun hF => (hg.foot k hF).elim h.2 (fun hs => absurd h.1 (Nat.not_lt.2 hs))⟩
theorem Off.same {w w' : World} {d d' : DSt} {k : Nat} (h : Off w d k) (hg : Goes w d w' d') : w'.heap[k]? = w.heap[k]? := hg.kept.block k h.1 h.2
/-- A row beside a disk. -/
structure Row {α : Type} (c : Kd α) (e : Nat) (w : World) (d : DSt) (v : Value) (xs : List α) : Prop where
  r : c.R e w 0 (fun _ => True) v xs
  off : ∀ k, v.ownBlock = some k → ¬ Foot d k
theorem Row.at_off {α : Type} {c : Kd α} {e : Nat} {w : World} {d : DSt} {v : Value} {xs : List α} (h : Row c e w d v xs) {k : Nat} (hk : v.ownBlock = some k) : Off w d k := ⟨Kd.R_lt h.r k hk, h.off k hk⟩
theorem Row.goes {α : Type} {c : Kd α} (hE : c.E = []) {e : Nat} {w w' : World} {d d' : DSt} {v : Value} {xs : List α} (h : Row c e w d v xs) (hg : Goes w d w' d') : Row c e w' d' v xs :=
  ⟨row_same hE h.r (fun k hk => (h.at_off hk).same hg), fun k hk => ((h.at_off hk).goes hg).2⟩
/-- A row that a call has made. -/
theorem Row.new {α : Type} {c : Kd α} {e : Nat} {w w' : World} {d d' : DSt} {v : Value} {xs : List α} (hd : DiskAt w d) (hr : c.R e w' w.heap.size (fun _ => True) v xs) : Row c e w' d v xs :=
  ⟨Kd.R_lower hr (Nat.zero_le _), fun k hk hF => by
    have h1 := hd.foot hF
    have h2 := Kd.R_base hr k hk
    omega⟩
theorem Bytes.goes {w w' : World} {d d' : DSt} {A : Option Addr} {b : List Int} (h : Bytes w d A b) (hg : Goes w d w' d') : Bytes w' d' A b :=
  ⟨C_same h.c (fun hp ad he => Off.same (h.off hp ad he) hg), fun hp ad he => Off.goes (h.off hp ad he) hg⟩
theorem Row.bytes {w : World} {d : DSt} {A : Option Addr} {n c : Nat} {xs : List Int} (h : Row (Kd.int .u8) 5 w d (.slice A n c) xs) : n = xs.length ∧ Bytes w d A xs := by
  obtain ⟨h1, h2, h3⟩ := Kd.R_reads' h.r
  refine ⟨h1, h3, fun hp ad he => ?_⟩
  subst he
  exact ⟨Kd.C_lt h3 hp (by decide), h.off _ rfl⟩
/-! What each call leaves -/
def App (d : DSt) (s : ByteArray) (b : List Int) (d' : DSt) : Prop :=
  (appE d s b.length ≠ 0 ∧ d' = d) ∨ (appE d s b.length = 0 ∧ ∃ f v1, f ∈ d.fs ∧ getM d.dir s = some f.g ∧ d' = growF d f b v1) ∨
  (appE d s b.length = 0 ∧ getM d.dir s = none ∧ ∃ g v1 vch1, (∀ f ∈ d.fs, f.g ≠ g) ∧ d' = addF d s b g v1 vch1)
theorem appE_good {d : DSt} {s : ByteArray} {n : Nat} (h : appE d s n = 0) : badName s = false := by
  unfold appE at h
  split at h
  · cases h
  · next hb => simpa using hb
section
variable {w : World} {d : DSt} {n k : Nat} (h : DiskAt w d) (hi : Inv d n k) (hn : n ≤ 1000) (hk : k ≤ 100000)
include h hi hn hk
theorem appG {s : ByteArray} {A : Option Addr} {cp : Nat} {b : List Int} (hb : Bytes w d A b) (hbl : b.length ≤ k) : Calls Try.prog 13 #[.pointer (some ⟨d.gd, 0, none⟩), .string s, .slice A b.length cp] w fun e w' =>
    e = .returned (.int .i64 (appE d s b.length)) ∧ ∃ d', App d s b d' ∧ DiskAt w' d' ∧ Goes w d w' d' ∧ Inv d' (n + 1) k := by
  have hf := hi.fit hn hk (b := b.length) (by omega)
  refine (appendC h hf.ok s A cp b hb.c hf.sum hf.chg hf.dir hf.quota hb.off).mono fun e w' ⟨he, hh⟩ => ⟨he, ?_⟩
  rcases hh with ⟨hc, hD, hB⟩ | ⟨hc, d', hA, hD, hK, hF⟩
  · exact ⟨d, .inl ⟨hc, rfl⟩, hD, Goes.of_below d hB, hi.more⟩
  · rcases hA with ⟨f, v1, hm, hg, rfl⟩ | ⟨g, v1, vch1, hn1, hg, rfl⟩
    · exact ⟨growF d f b v1, .inr (.inl ⟨hc, f, v1, hm, hg, rfl⟩), hD, ⟨hK, hF, rfl⟩, hi.grow hm hbl (by omega)⟩
    · exact ⟨addF d s b g v1 vch1, .inr (.inr ⟨hc, hn1, g, v1, vch1, hg, rfl⟩), hD, ⟨hK, hF, rfl⟩, hi.add hg hn1 (appE_good hc) hbl (by omega)⟩
end
theorem good_size {s : ByteArray} (h : badName s = false) : s.size ≤ 30 := by
  unfold badName at h
  rw [Bool.or_eq_false_iff] at h
  have := of_decide_eq_false h.2
  omega
/-- What Read tells. -/
def bytesOf (d : DSt) (s : ByteArray) : List Int :=
  match (findR d s).1 with
  | none => []
  | some g => ((d.fs.find? fun f => decide (f.g = g)).map (·.bs)).getD []
theorem find_fs {d : DSt} (hg : ∀ f ∈ d.fs, ∀ f' ∈ d.fs, f.g = f'.g → f = f') {f : FS} (hf : f ∈ d.fs) : d.fs.find? (fun x => decide (x.g = f.g)) = some f := by
  cases hx : d.fs.find? fun x => decide (x.g = f.g) with
  | none => exact absurd (List.find?_eq_none.1 hx f hf) (by simp)
  | some x =>
    have h1 := List.mem_of_find?_eq_some hx
    have h2 : x.g = f.g := by simpa using List.find?_some hx
    rw [hg x h1 f hf h2]
theorem bytesOf_file {w : World} {d : DSt} (h : DiskAt w d) {s : ByteArray} {f : FS} (hf : f ∈ d.fs) (hs : (findR d s).1 = some f.g) : bytesOf d s = f.bs := by
  unfold bytesOf
  rw [hs]
  simp only
  rw [find_fs h.hg hf]
  rfl
section
variable {w : World} {d : DSt} {n k : Nat} (h : DiskAt w d) (hi : Inv d n k)
include h hi
theorem readG (hn : n ≤ 1000) (hk : k ≤ 100000) (s : ByteArray) : Calls Try.prog 14 #[.pointer (some ⟨d.gd, 0, none⟩), .string s] w fun e w' =>
    ∃ v : Value, e = .returned (.tuple #[v, .int .i64 (findR d s).2]) ∧ Row (Kd.int .u8) 5 w' d v (bytesOf d s) ∧ DiskAt w' d ∧ Goes w d w' d := by
  cases hs : (findR d s).1 with
  | none =>
    refine (readNo h s hs).mono fun e w' ⟨he, hB⟩ => ⟨_, he, ⟨?_, fun k hk => (by cases hk)⟩, h.below hB, Goes.of_below d hB⟩
    unfold bytesOf
    rw [hs]
    exact Kd.R_nil _ _ _ _ _
  | some g =>
    obtain ⟨f, hf, rfl, _⟩ := find_mem hi.ok hs
    have hl := hi.len_le f hf
    have : n * k ≤ 1000 * 100000 := Nat.mul_le_mul hn hk
    rw [bytesOf_file h hf hs, find_some hs]
    exact (readOk h s hf hs (by omega)).mono fun e w' ⟨v, he, hR, hB⟩ => ⟨v, he, Row.new (d' := d) h hR, h.below hB, Goes.of_below d hB⟩
/-- What Sync leaves. -/
def Syn (d : DSt) (s : ByteArray) (d' : DSt) : Prop :=
  ((findR d s).1 = none ∧ d' = d) ∨ ∃ f ∈ d.fs, (findR d s).1 = some f.g ∧ d' = { d with fs := updF d.fs f.g fun x => { x with v := f.v, bs := f.bs, safe := (f.bs.length : Int) } }
theorem syncG (s : ByteArray) : Calls Try.prog 16 #[.pointer (some ⟨d.gd, 0, none⟩), .string s] w fun e w' =>
    e = .returned (.int .i64 (findR d s).2) ∧ ∃ d', Syn d s d' ∧ DiskAt w' d' ∧ Goes w d w' d' ∧ Inv d' (n + 1) k := by
  cases hs : (findR d s).1 with
  | none => exact (syncNo h s hs).mono fun e w' ⟨he, hB⟩ => ⟨he, d, .inl ⟨hs, rfl⟩, h.below hB, Goes.of_below d hB, hi.more⟩
  | some g =>
    obtain ⟨f, hf, rfl, _⟩ := find_mem hi.ok hs
    rw [find_some hs]
    refine (syncOk h s hf hs).mono fun e w' ⟨he, hD, hK⟩ => ⟨he, _, .inr ⟨f, hf, hs, rfl⟩, hD, ⟨hK, fun k hk => .inl ?_, rfl⟩, hi.sync hf⟩
    rcases hk with hk | hk | hk | hk | ⟨x, hx, hk⟩
    · exact .inl hk
    · exact .inr (.inl hk)
    · exact .inr (.inr (.inl hk))
    · exact .inr (.inr (.inr (.inl hk)))
    · obtain ⟨f', hf', ⟨e1, rfl⟩ | ⟨e1, rfl⟩⟩ := mem_updF hx
      · rcases hk with hk | hk
        · exact .inr (.inr (.inr (.inr ⟨f', hf', .inl hk⟩)))
        · exact .inr (.inr (.inr (.inr ⟨f, hf, .inr hk⟩)))
      · exact .inr (.inr (.inr (.inr ⟨_, hf', hk⟩)))
/-- What Rename leaves. -/
def Ren (d : DSt) (s t : ByteArray) (d' : DSt) : Prop :=
  ((badName t = true ∨ (findR d s).1 = none) ∧ d' = d) ∨ (badName t = false ∧ ∃ g v1, (findR d s).1 = some g ∧ d' = renD d s t g v1)
theorem renG (hn : n ≤ 1000) (s t : ByteArray) : Calls Try.prog 19 #[.pointer (some ⟨d.gd, 0, none⟩), .string s, .string t] w fun e w' =>
    e = .returned (.int .i64 (renE d s t)) ∧ ∃ d', Ren d s t d' ∧ DiskAt w' d' ∧ Goes w d w' d' ∧ Inv d' (n + 1) k := by
  by_cases hc : badName t = true ∨ (findR d s).1 = none
  · exact (renameNo h s t hc).mono fun e w' ⟨he, hB⟩ => ⟨he, d, .inl ⟨hc, rfl⟩, h.below hB, Goes.of_below d hB, hi.more⟩
  · rw [not_or] at hc
    have hb : badName t = false := by simpa using hc.1
    cases hs : (findR d s).1 with
    | none => exact absurd hs hc.2
    | some g =>
      have he0 : renE d s t = 0 := by unfold renE; rw [if_neg hc.1, find_some hs]
      rw [he0]
      exact (renameOk h s t hb hs (by have := hi.chg; omega)).mono fun e w' ⟨he, v1, hD, hK, hF⟩ => ⟨he, _, .inr ⟨hb, g, v1, hs, rfl⟩, hD, ⟨hK, hF, rfl⟩, hi.ren (find_get hs).2 hb⟩
/-- What Remove leaves. -/
def Rem (d : DSt) (s : ByteArray) (d' : DSt) : Prop := ((findR d s).1 = none ∧ d' = d) ∨ ∃ g v1, (findR d s).1 = some g ∧ d' = remD d s v1
theorem remG (hn : n ≤ 1000) (s : ByteArray) : Calls Try.prog 21 #[.pointer (some ⟨d.gd, 0, none⟩), .string s] w fun e w' =>
    e = .returned (.int .i64 (findR d s).2) ∧ ∃ d', Rem d s d' ∧ DiskAt w' d' ∧ Goes w d w' d' ∧ Inv d' (n + 1) k := by
  cases hs : (findR d s).1 with
  | none => exact (removeNo h s hs).mono fun e w' ⟨he, hB⟩ => ⟨he, d, .inl ⟨hs, rfl⟩, h.below hB, Goes.of_below d hB, hi.more⟩
  | some g =>
    rw [find_some hs]
    exact (removeOk h s hs (by have := hi.chg; omega)).mono fun e w' ⟨he, v1, hD, hK, hF⟩ => ⟨he, _, .inr ⟨g, v1, hs, rfl⟩, hD, ⟨hK, hF, rfl⟩, hi.rem⟩
theorem syncDirG : Calls Try.prog 17 #[.pointer (some ⟨d.gd, 0, none⟩)] w fun e w' =>
    e = .returned (.tuple #[]) ∧ ∃ nb, DiskAt w' (syncD d nb) ∧ Goes w d w' (syncD d nb) ∧ Inv (syncD d nb) (n + 1) k := by
  refine (syncDirC h).mono fun e w' ⟨he, hD, hK⟩ => ⟨he, _, hD, ⟨hK, fun k hk => ?_, rfl⟩, hi.syncDir _⟩
  rcases hk with hk | hk | hk | hk | hk
  · exact .inl (.inl hk)
  · exact .inl (.inr (.inl hk))
  · exact .inr (Nat.le_of_eq hk.symm)
  · cases hk
  · exact .inl (.inr (.inr (.inr (.inr hk))))
theorem quotaG (q : Int) (hq : -9223372036854775808 ≤ q ∧ q ≤ 9223372036854775807) : Calls Try.prog 12 #[.pointer (some ⟨d.gd, 0, none⟩), .int .i64 q] w fun e w' =>
    e = .returned (.tuple #[]) ∧ DiskAt w' { d with quota := q } ∧ Goes w d w' { d with quota := q } ∧ Inv { d with quota := q } (n + 1) k := by
  refine (quotaC h q).mono fun e w' ⟨he, hw⟩ => ⟨he, ?_⟩
  subst hw
  exact ⟨h.put_quota q, ⟨Kept.of_grown (grown_set (Below.refl _ _) d.gd 3 _) (Kept.refl _ _) (fun k hk => by injection hk with hk; exact .inl (.inl hk.symm)), fun k hk => .inl hk, rfl⟩, hi.quotaI q hq⟩
theorem crashG (hn : n ≤ 1000) (hk : k ≤ 100000) (pick : Int) (P : Nat) (hp : (P : Int) = if pick < 0 then -(pick + 1) else pick) (hpb : -9223372036854775808 ≤ pick ∧ pick ≤ 9223372036854775807) : Calls Try.prog 18 #[.pointer (some ⟨d.gd, 0, none⟩), .int .i64 pick] w fun e w' =>
    e = .returned (.tuple #[]) ∧ ∃ dirP nb1 nb2, runM d.safe (d.chg.take (P % (d.chg.length + 1))) = some dirP ∧ GoodL d.fs n dirP ∧
      DiskAt w' (crashD d dirP (P / (d.chg.length + 1)) nb1 nb2) ∧ Goes w d w' (crashD d dirP (P / (d.chg.length + 1)) nb1 nb2) ∧ Inv (crashD d dirP (P / (d.chg.length + 1)) nb1 nb2) (n + 1) k := by
  obtain ⟨dirP, h1, h2⟩ := hi.run (P % (d.chg.length + 1)) (Nat.le_of_lt_succ (Nat.mod_lt _ (Nat.succ_pos _)))
  have hnk : n * k ≤ 1000 * 100000 := Nat.mul_le_mul hn hk
  refine (crashC h pick P hp hpb (by have := hi.chg; omega) hi.now h1 h2.fs h2.vals (fun f hf => ?_)).mono fun e w' ⟨he, nb1, nb2, hn1, hn2, hD, hK⟩ => ⟨he, dirP, nb1, nb2, h1, h2, hD, ⟨hK, fun k hk => ?_, rfl⟩, hi.crash h1 _ _ _⟩
  · obtain ⟨a, b, c⟩ := hi.sf f hf
    exact ⟨a, b, by omega⟩
  · rcases hk with hk | hk | hk | hk | ⟨x, hx, hk⟩
    · exact .inl (.inl hk)
    · exact .inr (by rw [hk]; exact hn1)
    · exact .inr (by rw [hk]; exact hn2)
    · cases hk
    · refine .inl (foot_fsD (q := P / (d.chg.length + 1)) (S := dirP.map (fun x : ByteArray × Nat => x.2)) (d := d) (.inr (.inr (.inr (.inr ⟨x, hx, hk⟩)))))
theorem listG (hn : n ≤ 1000) : Calls Try.prog 20 #[.pointer (some ⟨d.gd, 0, none⟩)] w fun e w' =>
    ∃ v : Value, e = .returned v ∧ Row Kd.string 9 w' d v (sortL (d.dir.map (·.1))) ∧ (v = .slice none 0 0 ↔ d.dir = []) ∧ DiskAt w' d ∧ Goes w d w' d :=
  (listC h hi.dir.keys (fun p hp => by
    have h1 := hi.dir.good p hp
    unfold badName at h1
    rw [Bool.or_eq_false_iff] at h1
    have h2 := of_decide_eq_false h1.2
    have : maxLen = 9223372036854775807 := rfl
    omega) (by have := hi.dir.len; omega)).mono fun e w' ⟨v, he, hR, hv, hB⟩ => ⟨v, he, Row.new (d' := d) h hR, hv, h.below hB, Goes.of_below d hB⟩
end
end Go.Proofs.Ytoninmgglcepmaa.Dk
