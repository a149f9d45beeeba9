/- Rows beside a disk that grow; names in order; what calls leave. (From DiskNames' text.) -/
import Derived.Test.YtoninmgglcepmaaDC
import Derived.Laws.Cover1
import Derived.Sort.Walk0
namespace Go.Proofs.Ytoninmgglcepmaa.Dk
open Go.ChangeMaps hiding rd
open RegD Go.RowKit Go.Proofs.YtoninmgglcepmaaW.PrintWords Go.Proofs.YtoninmgglcepmaaW.PrintLast Go.Proofs.YtoninmgglcepmaaW.PrintMore Mp
attribute [local go_sem] max2_int min2_int max_two min_two max_three min_three max_four min_four
set_option linter.unusedVariables false
set_option linter.unusedSimpArgs false
/-- The first n bytes of what came in. -/
theorem came_cutN {W : World} {A : Option Addr} {a x : List Int} (n : Nat) (hr : Kd.C (Kd.int .u8) W A a.length a) (hx : x = a.take n) : Kd.C (Kd.int .u8) W A x.length x := by
  have := Kd.C_of_reads (d := (0 : Int)) (h1 := fun _ => rfl) ((Kd.reads_of_C (enc := Value.int .u8) (d := (0 : Int)) (h1 := fun _ => rfl) hr).take_ x.length (by rw [hx, List.length_take]; omega))
  rw [hx, List.length_take] at this ⊢
  rw [show a.take (min n a.length) = a.take n from by rw [← List.take_take, List.take_length]] at this
  exact this
set_option maxRecDepth 100000 in
theorem cut100 {A : Option Addr} {c : Nat} {a x : List Int} (hx : x = a.take 100) (hc : a.length ≤ c) :
    (decide ((100 : Int) < (a.length : Int)) = true ∧ ∀ w : World, (Instr.slice 29 (.slice A a.length c) none (some (.int .i64 100)) none).run Try.prog w = .ok (.slice A x.length c) w) ∨ (decide ((100 : Int) < (a.length : Int)) = false ∧ x = a) := by
  by_cases h : 100 < a.length
  · refine .inl ⟨decide_eq_true (by omega), fun w => ?_⟩
    rw [cut_to (P := Try.prog) 29 5 .i64 Try.underlying29 (i := _) rfl A a.length c 100 (by omega) (by omega) hc w, hx, List.length_take, Nat.min_eq_left (by omega)]
    rfl
  · exact .inr ⟨decide_eq_false (by omega), by rw [hx, List.take_of_length_le (by omega)]⟩
/-- A row beside the disk has grown. -/
theorem St.append {α : Type} {c : Kd α} {e : Nat} {w0 W w1 : World} {d : DSt} {v v1 : Value} {xs xs' : List α} (h : St w0 W d) (hr : Row c e W d v xs) (hown : ∀ k, v.ownBlock = some k → w0.heap.size ≤ k)
    (hR : c.R e w1 0 (fun _ => True) v1 xs') (hg : W.grownBy w1 v.ownBlock) (hat : v1.ownBlock = v.ownBlock ∨ ∃ b, v1.ownBlock = some b ∧ W.heap.size ≤ b) :
    St w0 w1 d ∧ Row c e w1 d v1 xs' ∧ ∀ k, v1.ownBlock = some k → w0.heap.size ≤ k := by
  have hs := h.kept.size
  refine ⟨⟨h.at_.off hg (fun k hk => hr.off k hk), Kept.of_grown hg h.kept (fun k hk => .inr (hown k hk)), h.own⟩, ⟨hR, fun k hk hF => ?_⟩, fun k hk => ?_⟩
  · rcases hat with hat | ⟨b, hb, hl⟩
    · exact hr.off k (hat ▸ hk) hF
    · rw [hb] at hk
      injection hk with hk
      have := h.at_.foot hF
      omega
  · rcases hat with hat | ⟨b, hb, hl⟩
    · exact hown k (hat ▸ hk)
    · rw [hb] at hk
      injection hk with hk
      omega
theorem appE_small {d : DSt} {n k : Nat} (hi : Inv d n k) (hn : n ≤ 100) (hk : k ≤ 100) (hq : d.quota < 0) {s : ByteArray} {b : Nat} (hb : b ≤ 100) : appE d s b = if badName s = true then 20 else 0 := by
  have h1 := hi.sum
  have h2 : n * (n * k) ≤ 100 * (100 * 100) := Nat.mul_le_mul hn (Nat.mul_le_mul hn hk)
  have h3 := hi.dir.len
  unfold appE
  split
  · rfl
  · rw [if_neg (by omega), if_neg (by omega)]
theorem App.quota {d d' : DSt} {s : ByteArray} {b : List Int} (h : App d s b d') (hq : d.quota < 0) : d'.quota < 0 := by
  have h1 : newQ d b.length = d.quota := by unfold newQ; rw [if_neg (by omega)]
  rcases h with ⟨_, rfl⟩ | ⟨_, f, v1, _, _, rfl⟩ | ⟨_, _, g, v1, vch1, _, rfl⟩
  · exact hq
  · show newQ d b.length < 0
    rw [h1]; exact hq
  · show newQ d b.length < 0
    rw [h1]; exact hq
theorem putM_key_mem {α : Type} {l : List (ByteArray × α)} {s : ByteArray} {v : α} {t : ByteArray} : t ∈ (putM l s v).map (·.1) ↔ t = s ∨ t ∈ l.map (·.1) := by
  have h1 := getM_none (l := putM l s v) (s := t)
  have h2 := getM_none (l := l) (s := t)
  rw [getM_put] at h1
  by_cases h : s = t
  · rw [if_pos h] at h1
    have : t ∈ (putM l s v).map (·.1) := Classical.byContradiction fun hc => by cases h1.2 hc
    exact ⟨fun _ => .inl h.symm, fun _ => this⟩
  · rw [if_neg h] at h1
    constructor
    · intro hm
      refine .inr (Classical.byContradiction fun hc => ?_)
      exact (h1.1 (h2.2 hc)) hm
    · rintro (rfl | hm)
      · exact absurd rfl h
      · exact Classical.byContradiction fun hc => (h2.1 (h1.2 hc)) hm
theorem App.names {d d' : DSt} {s : ByteArray} {b : List Int} (h : App d s b d') (t : ByteArray) : t ∈ d'.dir.map (·.1) ↔ t ∈ d.dir.map (·.1) ∨ (appE d s b.length = 0 ∧ t = s) := by
  rcases h with ⟨h0, rfl⟩ | ⟨h0, f, v1, _, hg, rfl⟩ | ⟨h0, _, g, v1, vch1, _, rfl⟩
  · exact ⟨.inl, fun h => h.elim id (fun h => absurd h.1 h0)⟩
  · refine ⟨.inl, fun h => h.elim id (fun h => ?_)⟩
    rw [h.2]
    exact List.mem_map.2 ⟨_, getM_mem hg, rfl⟩
  · rw [show (addF d s b g v1 vch1).dir = putM d.dir s g from rfl, putM_key_mem]
    exact ⟨fun h => h.elim (fun h => .inr ⟨h0, h⟩) .inl, fun h => h.elim .inr (fun h => .inl h.2)⟩
theorem info9 : (Try.prog.info? 9).map (fun i => (i.zero, i.size, i.bytes)) = some (some (.string ByteArray.empty), 1, 16) := by kernel_rfl
theorem badN (s : ByteArray) (h : s.size ≤ maxLen) : badName s = !(decide (1 ≤ (s.size : Int)) && decide ((s.size : Int) ≤ 30)) := by
  have : s.toList.isEmpty = decide (s.size = 0) := by
    rw [ByteArray.toList_eq, ← data_length]
    cases s.data.toList <;> simp
  unfold badName
  rw [this]
  by_cases h1 : s.size = 0
  · simp [h1]
  · by_cases h2 : s.size ≤ 30
    · rw [decide_eq_false h1, decide_eq_false (by omega : ¬ (30 : Int) < (s.size : Int)), decide_eq_true (by omega : (1 : Int) ≤ (s.size : Int)), decide_eq_true (by omega : (s.size : Int) ≤ 30)]
      rfl
    · rw [decide_eq_false h1, decide_eq_true (by omega : (30 : Int) < (s.size : Int)), decide_eq_false (by omega : ¬ (s.size : Int) ≤ 30)]
      simp
def nO : ByteArray := ⟨#[111, 116, 104, 101, 114]⟩
theorem badO : badName nO = false := by decide +kernel
theorem sortL_length (l : List ByteArray) : (sortL l).length = l.length := by
  unfold sortL
  rw [List.length_map, List.length_mergeSort, List.length_map]
theorem strB_toList (b : List UInt8) : (strB b).toList = b := by rw [ByteArray.toList_eq]; rfl
theorem sortL_lt {L l : List ByteArray} (hL : L = sortL l) (hn : l.Nodup) (j : Nat) (hj : j + 1 < L.length) : Op.bytesLess (rdOf ByteArray.empty L (j : Int)).toList (rdOf ByteArray.empty L ((j + 1 : Nat) : Int)).toList = true := by
  have hp := List.mergeSort_perm (l.map (·.data.toList)) fun x y => decide (x ≤ y)
  have hs : ((l.map (·.data.toList)).mergeSort fun x y => decide (x ≤ y)).Pairwise fun x y => decide (x ≤ y) = true :=
    List.pairwise_mergeSort (fun a b c h1 h2 => by simp only [decide_eq_true_eq] at *; exact List.le_trans h1 h2) (fun a b => by simp only [Bool.or_eq_true, decide_eq_true_eq]; exact List.le_total a b) _
  have hnd : ((l.map (·.data.toList)).mergeSort fun x y => decide (x ≤ y)).Nodup := hp.nodup_iff.2 (by
    rw [List.nodup_iff_pairwise_ne, List.pairwise_map]
    rw [List.nodup_iff_pairwise_ne] at hn
    exact hn.imp fun h he => h (congrArg strB he))
  have hL2 : L = ((l.map (·.data.toList)).mergeSort fun x y => decide (x ≤ y)).map strB := hL
  generalize ((l.map (·.data.toList)).mergeSort fun x y => decide (x ≤ y)) = M at hL2 hs hnd
  subst hL2
  rw [List.length_map] at hj
  have e : ∀ k : Nat, k < M.length → ∃ h : k < M.length, (rdOf ByteArray.empty (M.map strB) (k : Int)).toList = M[k] := fun k hk => ⟨hk, by
    rw [rdOf, Int.toNat_natCast, List.getD_eq_getElem?_getD, List.getElem?_map, List.getElem?_eq_getElem hk]
    exact strB_toList _⟩
  obtain ⟨h1, e1⟩ := e j (by omega)
  obtain ⟨h2, e2⟩ := e (j + 1) hj
  rw [e1, e2, Go.Proofs.bytesLess_eq, decide_eq_true_eq]
  refine List.not_le.1 fun hle => ?_
  have h3 := List.pairwise_iff_getElem.1 hs j (j + 1) h1 h2 (Nat.lt_succ_self j)
  have h4 := List.pairwise_iff_getElem.1 (List.nodup_iff_pairwise_ne.1 hnd) j (j + 1) h1 h2 (Nat.lt_succ_self j)
  exact h4 (List.le_antisymm (of_decide_eq_true h3) hle)
theorem nO_list : nO.toList = [111, 116, 104, 101, 114] := by rw [ByteArray.toList_eq]; rfl
theorem nO_ne {s : ByteArray} (h : ¬ nO = s) : ¬ s.toList = [111, 116, 104, 101, 114] := fun h2 => h (by
  rw [ByteArray.toList_eq] at h2
  exact (show nO = strB s.data.toList from (congrArg strB h2).symm))
theorem find_ok {d : DSt} {n k : Nat} (hi : Inv d n k) {s : ByteArray} (h : s ∈ d.dir.map (·.1)) : ∃ g, getM d.dir s = some g ∧ findR d s = (some g, 0) := by
  obtain ⟨p, hp, rfl⟩ := List.mem_map.1 h
  have hg := mem_getM hi.dir.keys (s := p.1) (v := p.2) hp
  refine ⟨p.2, hg, ?_⟩
  unfold findR
  rw [if_neg (by rw [hi.dir.good p hp]; decide), hg]
theorem ren_dst {d : DSt} {s t : ByteArray} {g : Nat} {v1 : Value} (hb : badName t = false) : findR (renD d s t g v1) t = (some g, 0) := by
  unfold findR
  rw [if_neg (by rw [hb]; decide)]
  rw [show (renD d s t g v1).dir = putM (delM d.dir s) t g from rfl]
  rw [getM_put, if_pos rfl]
theorem ren_src {d : DSt} {s t : ByteArray} {g : Nat} {v1 : Value} (hk : (d.dir.map (·.1)).Nodup) (hb : badName s = false) (hst : ¬ t = s) : findR (renD d s t g v1) s = (none, 25) := by
  unfold findR
  rw [if_neg (by rw [hb]; decide)]
  rw [show (renD d s t g v1).dir = putM (delM d.dir s) t g from rfl]
  rw [getM_put, if_neg hst, getM_del hk, if_pos rfl]
theorem rem_src {d : DSt} {s : ByteArray} {v1 : Value} (hk : (d.dir.map (·.1)).Nodup) (hb : badName s = false) : findR (remD d s v1) s = (none, 25) ∧ getM (remD d s v1).dir s = none := by
  have h : getM (delM d.dir s) s = none := by rw [getM_del hk, if_pos rfl]
  refine ⟨?_, h⟩
  unfold findR
  rw [if_neg (by rw [hb]; decide)]
  rw [show (remD d s v1).dir = delM d.dir s from rfl, h]
theorem bytesOf_same {d d' : DSt} {s t : ByteArray} (h : (findR d' t).1 = (findR d s).1) (hf : d'.fs = d.fs) : bytesOf d' t = bytesOf d s := by
  unfold bytesOf
  rw [h, hf]
theorem app_read {d d' : DSt} {s : ByteArray} {b : List Int} (h : App d s b d') (h0 : appE d s b.length = 0) (hn : getM d.dir s = none) : findR d' s = ((findR d' s).1, 0) ∧ (findR d' s).2 = 0 ∧ bytesOf d' s = b := by
  rcases h with ⟨h1, _⟩ | ⟨_, f, v1, _, hg, _⟩ | ⟨_, _, g, v1, vch1, hg, rfl⟩
  · exact absurd h0 h1
  · rw [hn] at hg; cases hg
  · have hf : findR (addF d s b g v1 vch1) s = (some g, 0) := by
      unfold findR
      rw [if_neg (by rw [appE_good h0]; decide)]
      rw [show (addF d s b g v1 vch1).dir = putM d.dir s g from rfl]
      rw [getM_put, if_pos rfl]
    refine ⟨by rw [hf], by rw [hf], ?_⟩
    unfold bytesOf
    rw [hf]
    show (((d.fs ++ [(⟨g, v1, b, 0⟩ : FS)]).find? fun f => decide (f.g = g)).map (·.bs)).getD [] = b
    rw [List.find?_append, List.find?_eq_none.2 (fun f hf => by simpa using hg f hf)]
    simp
/-- Another row has grown. -/
theorem Row.beside {α : Type} {c : Kd α} (hE : c.E = []) {e : Nat} {W w1 : World} {d : DSt} {v : Value} {xs : List α} (h : Row c e W d v xs) {row : Option Nat} (hg : W.grownBy w1 row) (hne : ∀ k, v.ownBlock = some k → row ≠ some k) : Row c e w1 d v xs :=
  ⟨row_same hE h.r (fun k hk => hg.block k (Kd.R_lt h.r k hk) (fun he => hne k hk he.symm)), h.off⟩
/-- Two rows stay apart where one grows. -/
theorem apart_grown {α : Type} {c : Kd α} {e : Nat} {W : World} {d : DSt} {v u u1 : Value} {xs : List α} (h : Row c e W d v xs) (hne : ∀ k, v.ownBlock = some k → u.ownBlock ≠ some k) (hat : u1.ownBlock = u.ownBlock ∨ ∃ b, u1.ownBlock = some b ∧ W.heap.size ≤ b) : ∀ k, v.ownBlock = some k → u1.ownBlock ≠ some k := by
  intro k hk he
  rcases hat with hat | ⟨b, hb, hl⟩
  · exact hne k hk (hat ▸ he)
  · rw [hb] at he
    injection he with he
    have := Kd.R_lt h.r k hk
    omega
end Go.Proofs.Ytoninmgglcepmaa.Dk
