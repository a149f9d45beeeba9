/- A map from texts, as a list of entries in the order of its block: lookup, store, delete, len, range, as equations on the runs. -/
import Derived.Maps.RangeRun
import Derived.WalkKit
namespace Go.Proofs.Ytoninmgglcepmaa.Mp
open Go.MapKept Go.ChangeMaps
set_option linter.unusedVariables false
set_option linter.unusedSimpArgs false
def getM {α : Type} : List (ByteArray × α) → ByteArray → Option α
  | [], _ => none
  | p :: l, s => if p.1 = s then some p.2 else getM l s
def putM {α : Type} : List (ByteArray × α) → ByteArray → α → List (ByteArray × α)
  | [], s, v => [(s, v)]
  | p :: l, s, v => if p.1 = s then (s, v) :: l else p :: putM l s v
def delM {α : Type} : List (ByteArray × α) → ByteArray → List (ByteArray × α)
  | [], _ => []
  | p :: l, s => if p.1 = s then l else p :: delM l s
def kv (es : List MapEntry) : List (Value × Value) := es.map fun e => (e.key, e.val)
def kl (l : List (ByteArray × Value)) : List (Value × Value) := l.map fun p => (.string p.1, p.2)
/-- Block b is a map with these entries. -/
def MapB (w : World) (b : Nat) (l : List (ByteArray × Value)) : Prop :=
  ∃ es clock, w.heap[b]? = some (.map es clock) ∧ kv es.toList = kl l ∧ (es.toList.map (·.born)).Nodup ∧ ∀ e ∈ es.toList, e.born < clock
theorem find_kl (s : ByteArray) : ∀ (es : List MapEntry) (l : List (ByteArray × Value)) (i : Nat), kv es = kl l →
    (getM l s = none ∧ Instr.findNow .string (.string s) es i = some none ∧ delM l s = l ∧ ∀ v, putM l s v = l ++ [(s, v)]) ∨
    ∃ j e, getM l s = some e.val ∧ Instr.findNow .string (.string s) es i = some (some (i + j, e.val)) ∧ es[j]? = some e ∧ e.key = .string s ∧ kv (es.eraseIdx j) = kl (delM l s) ∧ ∀ v, kv (es.modify j fun e => { e with key := .string s, val := v }) = kl (putM l s v)
  | [], [], _, _ => .inl ⟨rfl, rfl, rfl, fun _ => rfl⟩
  | [], _ :: _, _, h => by simp [kv, kl] at h
  | _ :: _, [], _, h => by simp [kv, kl] at h
  | e :: es, p :: l, i, h => by
    simp only [kv, kl, List.map_cons, List.cons.injEq, Prod.mk.injEq] at h
    obtain ⟨⟨h1, h2⟩, h3⟩ := h
    by_cases hc : p.1 = s
    · refine .inr ⟨0, e, ?_, ?_, rfl, by rw [h1, hc], ?_, ?_⟩
      · rw [getM, if_pos hc, h2]
      · have : Instr.sameNow .string (.string s) e.key = some true := by rw [h1, hc]; simp [Instr.sameNow, (bytes_beq s s).2 rfl]
        simp [Instr.findNow, this]
      · rw [delM, if_pos hc]; exact h3
      · intro v
        rw [putM, if_pos hc]
        simp only [List.modify_zero_cons, kv, kl, List.map_cons]
        rw [h3]
    · have hs : Instr.sameNow .string (.string s) e.key = some false := by
        rw [h1]
        have : (s == p.1) = false := by
          cases hq : s == p.1 with
          | false => rfl
          | true => exact absurd ((bytes_beq s p.1).1 hq).symm hc
        simp [Instr.sameNow, this]
      rcases find_kl s es l (i + 1) h3 with ⟨g1, g2, g3, g4⟩ | ⟨j, e', g1, g2, g3, g4, g5, g6⟩
      · refine .inl ⟨by rw [getM, if_neg hc]; exact g1, by simp [Instr.findNow, hs, g2], by rw [delM, if_neg hc, g3], fun v => by rw [putM, if_neg hc, g4]; rfl⟩
      · refine .inr ⟨j + 1, e', by rw [getM, if_neg hc]; exact g1, by simp [Instr.findNow, hs, g2]; omega, by simpa using g3, g4, ?_, fun v => ?_⟩
        · rw [delM, if_neg hc]
          simp only [List.eraseIdx_cons_succ, kv, kl, List.map_cons, h1, h2]
          congr 1
        · rw [putM, if_neg hc]
          simp only [List.modify_succ_cons, kv, kl, List.map_cons, h1, h2]
          congr 1
          exact g6 v
theorem modify_born (s : ByteArray) (v : Value) : ∀ (l2 : List MapEntry) (j : Nat), (l2.modify j fun e => { e with key := .string s, val := v }).map (·.born) = l2.map (·.born)
  | [], j => by simp
  | x :: l2, 0 => by simp
  | x :: l2, j + 1 => by
    simp only [List.modify_succ_cons, List.map_cons]
    rw [modify_born s v l2 j]
section
variable {P : Program} {w : World} {b : Nat} {l : List (ByteArray × Value)} {t k e : TypeId}
theorem find_run {es : Array MapEntry} {s : ByteArray} {a : Option (Nat × Value)} (hk : P.underlying k = some .string) (h : Instr.findNow .string (.string s) es.toList 0 = some a) : (Instr.findKey k (.string s) es.toList).run P w = .ok a w := run_findKey hk h
theorem run_look (h : MapB w b l) (ht : P.underlying t = some (.map k e)) (hk : P.underlying k = some .string) {z : Value} (hz : (zeroValue e).run P w = .ok z w) (s : ByteArray) :
    (Instr.lookup t (.map (some b)) (.string s) false).run P w = .ok ((getM l s).getD z) w := by
  obtain ⟨es, clock, hb, hkv, _, _⟩ := h
  have hc := run_checkKey (w := w) hk (k := .string s) (by simp [IsKey]) es.isEmpty 9999
  simp only [Instr.lookup, Sem.run_bind, run_underlying ht, Result.andThen, MapKept.run_getObj_map hb, Sem.run_pure, hc]
  rcases find_kl s es.toList l 0 hkv with ⟨g1, g2, _, _⟩ | ⟨j, e', g1, g2, _, _, _, _⟩
  · simp [run_findKey hk g2, g1, hz, Result.andThen]
  · simp [run_findKey hk g2, g1, Result.andThen]
theorem run_put (h : MapB w b l) (ht : P.underlying t = some (.map k e)) (hk : P.underlying k = some .string) (s : ByteArray) (v : Value) :
    ∃ o, (Instr.mapUpdate t (.map (some b)) (.string s) v).run P w = .ok () (setBlock w b o) ∧ MapB (setBlock w b o) b (putM l s v) := by
  obtain ⟨es, clock, hb, hkv, hn, hlt⟩ := h
  have hc := run_checkKey (w := w) hk (k := .string s) (by simp [IsKey]) false 9999
  have hset : ∀ o, (setObj b o).run P w = .ok () (setBlock w b o) := fun o => by simp [setObj, Sem.run, hb, setBlock]
  rcases find_kl s es.toList l 0 hkv with ⟨g1, g2, _, g4⟩ | ⟨j, e', g1, g2, g3, g4, _, g6⟩
  · refine ⟨.map (es.push { key := .string s, val := v, born := clock }) (clock + 1), ?_, _, _, heap_setBlock_same hb _, ?_, ?_, ?_⟩
    · simp [Instr.mapUpdate, run_underlying ht, Result.andThen, MapKept.run_getObj_map hb, hc, run_findKey hk g2, hset]
    · rw [g4]; simp only [kv, kl, Array.toList_push, List.map_append]; rw [show es.toList.map (fun e => (e.key, e.val)) = _ from hkv]; rfl
    · rw [Array.toList_push, List.map_append, List.nodup_append]
      refine ⟨hn, by simp, fun a ha c hc => ?_⟩
      obtain ⟨x, hx, rfl⟩ := List.mem_map.1 ha
      simp at hc
      have := hlt x hx
      omega
    · intro x hx
      rw [Array.toList_push] at hx
      rcases List.mem_append.1 hx with hx | hx
      · have := hlt x hx; omega
      · simp at hx; rw [hx]; simp
  · have hkey : (es[0 + j]?.map (·.key)).getD (.string s) = .string s := by
      rw [Nat.zero_add, ← Array.getElem?_toList, g3]; simpa using g4
    have hst : (Instr.keyThatStays (.string s) (.string s)).run P w = .ok (.string s) w := by simp [Instr.keyThatStays, Instr.sameBits, (bytes_beq s s).2 rfl]
    have hb2 := fun l2 => modify_born s v l2 j
    refine ⟨.map (es.modify (0 + j) fun e => { e with key := .string s, val := v }) clock, ?_, _, _, heap_setBlock_same hb _, ?_, ?_, ?_⟩
    · simp only [Instr.mapUpdate, Sem.run_bind, run_underlying ht, Result.andThen, MapKept.run_getObj_map hb, hc, run_findKey hk g2, hkey, hst, hset]
    · rw [Array.toList_modify, Nat.zero_add]; exact g6 v
    · rw [Array.toList_modify, Nat.zero_add, hb2]; exact hn
    · intro x hx
      rw [Array.toList_modify, Nat.zero_add] at hx
      have hx2 : x.born ∈ es.toList.map (·.born) := by rw [← hb2]; exact List.mem_map.2 ⟨x, hx, rfl⟩
      obtain ⟨y, hy, hyx⟩ := List.mem_map.1 hx2
      rw [← hyx]
      exact hlt y hy
theorem run_del (h : MapB w b l) (ht : P.underlying t = some (.map k e)) (hk : P.underlying k = some .string) (s : ByteArray) (ty : TypeId) :
    ∃ o, (Builtin.delete_ #[t, k] ty #[.map (some b), .string s]).run P w = .ok (.tuple #[]) (setBlock w b o) ∧ MapB (setBlock w b o) b (delM l s) := by
  obtain ⟨es, clock, hb, hkv, hn, hlt⟩ := h
  have hc := run_checkKey (w := w) hk (k := .string s) (by simp [IsKey]) es.isEmpty 9999
  have hset : ∀ o, (setObj b o).run P w = .ok () (setBlock w b o) := fun o => by simp [setObj, Sem.run, hb, setBlock]
  rcases find_kl s es.toList l 0 hkv with ⟨g1, g2, g3, _⟩ | ⟨j, e', g1, g2, g3, g4, g5, _⟩
  · refine ⟨.map es clock, ?_, _, _, heap_setBlock_same hb _, by rw [g3]; exact hkv, hn, hlt⟩
    simp [Builtin.delete_, run_underlying ht, Result.andThen, MapKept.run_getObj_map hb, hc, run_findKey hk g2, hset]
  · refine ⟨.map (es.eraseIdxIfInBounds (0 + j)) clock, ?_, _, _, heap_setBlock_same hb _, ?_, ?_, ?_⟩
    · simp [Builtin.delete_, run_underlying ht, Result.andThen, MapKept.run_getObj_map hb, hc, run_findKey hk g2, hset]
    · rw [Array.toList_eraseIdxIfInBounds, Nat.zero_add]; exact g5
    · rw [Array.toList_eraseIdxIfInBounds, Nat.zero_add]; exact ((List.eraseIdx_sublist _ _).map _).nodup hn
    · intro x hx
      rw [Array.toList_eraseIdxIfInBounds, Nat.zero_add] at hx
      exact hlt x ((List.eraseIdx_sublist _ _).subset hx)
theorem map_size (h : MapB w b l) : ∃ es clock, w.heap[b]? = some (.map es clock) ∧ es.size = l.length := by
  obtain ⟨es, clock, hb, hkv, _, _⟩ := h
  refine ⟨es, clock, hb, ?_⟩
  have := congrArg List.length hkv
  simpa [kv, kl] using this
theorem alloc_old (w : World) (o : Obj) {i : Nat} (h : i < w.heap.size) : (w.alloc o).heap[i]? = w.heap[i]? := by
  show (w.heap.push o)[i]? = _
  rw [Array.getElem?_push_lt h, Array.getElem?_eq_getElem h]
/-- Block r goes through the map of block b; left: what is still to come. -/
def RangeB (w : World) (b r : Nat) (l left : List (ByteArray × Value)) : Prop :=
  ∃ es clock since seen c0, w.heap[b]? = some (.map es clock) ∧ kv es.toList = kl l ∧ (es.toList.map (·.born)).Nodup ∧ (∀ e ∈ es.toList, e.born < clock) ∧ (∀ e ∈ es.toList, e.born < since) ∧ since ≤ c0 ∧ since ≤ clock ∧
    w.heap[r]? = some (.mapIter (some b) since seen c0) ∧ (kv (leftOf es seen).toList).Perm (kl left)
theorem range_start (h : MapB w b l) (ht : P.underlying t = some (.map k e)) :
    ∃ o, (Instr.range t (.map (some b))).run P w = .ok (.pointer (some ⟨w.heap.size, 0, none⟩)) (w.alloc o) ∧ RangeB (w.alloc o) b w.heap.size l l := by
  obtain ⟨es, clock, hb, hkv, hn, hlt⟩ := h
  have hbl : b < w.heap.size := by
    rcases Nat.lt_or_ge b w.heap.size with h | h
    · exact h
    · simp [Array.getElem?_eq_none h] at hb
  refine ⟨_, run_range_map w t k e b es clock ht hb, es, clock, clock, #[], clock, by rw [alloc_old w _ hbl, hb], hkv, hn, hlt, hlt, Nat.le_refl _, Nat.le_refl _, Go.heap_alloc_new w _, ?_⟩
  have : leftOf es #[] = es := by
    unfold leftOf
    exact Array.filter_eq_self.2 (fun x _ => by simp)
  rw [this, hkv]
theorem left_perm (es : Array MapEntry) (seen : Array Nat) (e : MapEntry) (hn : (es.toList.map (·.born)).Nodup) (he : e ∈ (leftOf es seen).toList) : ((leftOf es seen).toList).Perm (e :: (leftOf es (seen.push e.born)).toList) := by
  have h1 := mem_left he
  have hl : ∀ s, (leftOf es s).toList = es.toList.filter fun x => !s.contains x.born := fun s => by unfold leftOf; rw [Array.toList_filter]
  rw [hl, hl]
  obtain ⟨h1, h2⟩ := h1
  generalize es.toList = L at hn h1
  clear hl he
  induction L with
  | nil => cases h1
  | cons x L ih =>
    have hn' : x.born ∉ L.map (·.born) ∧ (L.map (·.born)).Nodup := List.nodup_cons.1 hn
    rcases List.mem_cons.1 h1 with rfl | h
    · rw [List.filter_cons, List.filter_cons, if_pos (by rw [h2]; rfl), if_neg (by rw [contains_push]; simp)]
      refine List.Perm.cons _ (List.Perm.of_eq (List.filter_congr fun y hy => ?_))
      rw [contains_push]
      have : (y.born == e.born) = false := by
        cases hc : y.born == e.born with
        | false => rfl
        | true => exact absurd (List.mem_map.2 ⟨y, hy, beq_iff_eq.1 hc⟩) hn'.1
      rw [this, Bool.or_false]
    · have hx : (x.born == e.born) = false := by
        cases hc : x.born == e.born with
        | false => rfl
        | true => exact absurd (by rw [beq_iff_eq.1 hc]; exact List.mem_map.2 ⟨e, h, rfl⟩) hn'.1
      rw [List.filter_cons, List.filter_cons, contains_push, hx, Bool.or_false]
      by_cases hc : seen.contains x.born = true
      · simp only [hc, Bool.not_true, Bool.false_eq_true, if_false]
        exact ih hn'.2 h
      · simp only [Bool.not_eq_true] at hc
        simp only [hc, Bool.not_false, if_true]
        exact ((ih hn'.2 h).cons x).trans (List.Perm.swap _ _ _)
theorem range_next {r : Nat} {left : List (ByteArray × Value)} (h : RangeB w b r l left) (ty : TypeId) :
    (left = [] ∧ (Instr.next (.pointer (some ⟨r, 0, none⟩)) false ty).run P w = .ok (.tuple #[.bool false]) w) ∨
    ∃ s v left' w1 o, left.Perm ((s, v) :: left') ∧ (w1 = w ∨ w1 = w.drew) ∧ (Instr.next (.pointer (some ⟨r, 0, none⟩)) false ty).run P w = .ok (.tuple #[.bool true, .string s, v]) (setBlock w1 r o) ∧ RangeB (setBlock w1 r o) b r l left' ∧
      (Instr.entry (.pointer (some ⟨r, 0, none⟩))).run P (setBlock w1 r o) = .ok (.tuple #[.string s, v]) (setBlock w1 r o) := by
  obtain ⟨es, clock, since, seen, c0, hb, hkv, hn, hlt, hold, hsc, hsk, hr, hp⟩ := h
  rcases run_next_at w ty r b since c0 seen es clock hr hb hold hsc with ⟨h0, hrun⟩ | ⟨e', he, w1, hw1, hrun⟩
  · refine .inl ⟨?_, hrun⟩
    rw [Array.eq_empty_of_size_eq_zero h0] at hp
    have := hp.length_eq
    simpa [kv, kl] using this.symm
  · have hbr : b ≠ r := fun hbr => by rw [hbr, hr] at hb; cases hb
    have hr1 : w1.heap[r]? = some (.mapIter (some b) since seen c0) := by rcases hw1 with rfl | rfl <;> exact hr
    have hb1 : w1.heap[b]? = some (.map es clock) := by rcases hw1 with rfl | rfl <;> exact hb
    have hrl : r < w1.heap.size := by
      rcases Nat.lt_or_ge r w1.heap.size with h | h
      · exact h
      · simp [Array.getElem?_eq_none h] at hr1
    have hnr : (setBlock w1 r (.mapIter (some b) since (seen.push e'.born) clock)).heap[r]? = some (.mapIter (some b) since (seen.push e'.born) clock) := by simp [setBlock, hrl]
    have hnb : (setBlock w1 r (.mapIter (some b) since (seen.push e'.born) clock)).heap[b]? = some (.map es clock) := by
      simp only [setBlock]; rw [Array.getElem?_setIfInBounds_ne (Ne.symm hbr)]; exact hb1
    have hpl := left_perm es seen e' hn he
    have hmem := (mem_left he).1
    have hin : (e'.key, e'.val) ∈ kl l := by rw [← hkv]; exact List.mem_map.2 ⟨e', hmem, rfl⟩
    obtain ⟨⟨s, v⟩, _, hsv⟩ := List.mem_map.1 hin
    simp only [Prod.mk.injEq] at hsv
    obtain ⟨hs, hv⟩ := hsv
    have hin2 : (e'.key, e'.val) ∈ kl left := hp.subset (List.mem_map.2 ⟨e', he, rfl⟩)
    obtain ⟨⟨s2, v2⟩, hm2, hsv2⟩ := List.mem_map.1 hin2
    simp only [Prod.mk.injEq] at hsv2
    obtain ⟨hs2, hv2⟩ := hsv2
    obtain ⟨la, lb, hlab⟩ := List.append_of_mem hm2
    refine .inr ⟨s2, v2, la ++ lb, w1, _, by rw [hlab]; exact List.perm_middle, hw1, by rw [hs2, hv2]; exact hrun, ⟨es, clock, since, seen.push e'.born, clock, hnb, hkv, hn, hlt, hold, hsk, hsk, hnr, ?_⟩, by rw [hs2, hv2]; exact run_entry_at _ r b since seen es clock e' hnr hnb hmem hn⟩
    · have h1 : (kl left).Perm ((Value.string s2, v2) :: kl (la ++ lb)) := by
        rw [hlab]; simp only [kl, List.map_append, List.map_cons]; exact List.perm_middle
      have h2 : (kv (leftOf es seen).toList).Perm ((e'.key, e'.val) :: kv (leftOf es (seen.push e'.born)).toList) := hpl.map _
      rw [← hs2, ← hv2] at h2
      exact (List.perm_cons _).1 ((h2.symm.trans hp).trans h1)
end
end Go.Proofs.Ytoninmgglcepmaa.Mp
