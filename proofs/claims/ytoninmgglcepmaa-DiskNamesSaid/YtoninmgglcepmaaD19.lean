/- DiskNames: the walk. -/
import Derived.Test.YtoninmgglcepmaaD18
import Derived.Laws.Cover1
import Derived.Sort.Walk0
namespace Go.Proofs.Ytoninmgglcepmaa.Dk
open Go.ChangeMaps hiding rd
open RegD Go.RowKit Go.Proofs.YtoninmgglcepmaaW.PrintWords Go.Proofs.YtoninmgglcepmaaW.PrintLast Go.Proofs.YtoninmgglcepmaaW.PrintMore Mp
attribute [local go_sem] max2_int min2_int max_two min_two max_three min_three max_four min_four
set_option linter.unusedVariables false
set_option linter.unusedSimpArgs false
/-- The first n bytes of what came in. -/
theorem came_cutN {W : World} {A : Option Addr} {a x : List Int} (n : Nat) (hr : Kd.C (Kd.int .u8) W A a.length a) (hx : x = a.take n) : Kd.C (Kd.int .u8) W A x.length x := by
  have := Kd.C_of_reads (d := (0 : Int)) (h1 := fun _ => rfl) ((Kd.reads_of_C (enc := Value.int .u8) (d := (0 : Int)) (h1 := fun _ => rfl) hr).take_ x.length (by rw [hx, List.length_take]; omega))
  rw [hx, List.length_take] at this ⊢
  rw [show a.take (min n a.length) = a.take n from by rw [← List.take_take, List.take_length]] at this
  exact this
set_option maxRecDepth 100000 in
theorem cut100 {A : Option Addr} {c : Nat} {a x : List Int} (hx : x = a.take 100) (hc : a.length ≤ c) :
    (decide ((100 : Int) < (a.length : Int)) = true ∧ ∀ w : World, (Instr.slice 29 (.slice A a.length c) none (some (.int .i64 100)) none).run Try.prog w = .ok (.slice A x.length c) w) ∨ (decide ((100 : Int) < (a.length : Int)) = false ∧ x = a) := by
  by_cases h : 100 < a.length
  · refine .inl ⟨decide_eq_true (by omega), fun w => ?_⟩
    rw [cut_to (P := Try.prog) 29 5 .i64 Try.underlying29 (i := _) rfl A a.length c 100 (by omega) (by omega) hc w, hx, List.length_take, Nat.min_eq_left (by omega)]
    rfl
  · exact .inr ⟨decide_eq_false (by omega), by rw [hx, List.take_of_length_le (by omega)]⟩
/-- A row beside the disk has grown. -/
theorem St.append {α : Type} {c : Kd α} {e : Nat} {w0 W w1 : World} {d : DSt} {v v1 : Value} {xs xs' : List α} (h : St w0 W d) (hr : Row c e W d v xs) (hown : ∀ k, v.ownBlock = some k → w0.heap.size ≤ k)
    (hR : c.R e w1 0 (fun _ => True) v1 xs') (hg : W.grownBy w1 v.ownBlock) (hat : v1.ownBlock = v.ownBlock ∨ ∃ b, v1.ownBlock = some b ∧ W.heap.size ≤ b) :
    St w0 w1 d ∧ Row c e w1 d v1 xs' ∧ ∀ k, v1.ownBlock = some k → w0.heap.size ≤ k := by
  have hs := h.kept.size
  refine ⟨⟨h.at_.off hg (fun k hk => hr.off k hk), Kept.of_grown hg h.kept (fun k hk => .inr (hown k hk)), h.own⟩, ⟨hR, fun k hk hF => ?_⟩, fun k hk => ?_⟩
  · rcases hat with hat | ⟨b, hb, hl⟩
    · exact hr.off k (hat ▸ hk) hF
    · rw [hb] at hk
      injection hk with hk
      have := h.at_.foot hF
      omega
  · rcases hat with hat | ⟨b, hb, hl⟩
    · exact hown k (hat ▸ hk)
    · rw [hb] at hk
      injection hk with hk
      omega
theorem appE_small {d : DSt} {n k : Nat} (hi : Inv d n k) (hn : n ≤ 100) (hk : k ≤ 100) (hq : d.quota < 0) {s : ByteArray} {b : Nat} (hb : b ≤ 100) : appE d s b = if badName s = true then 20 else 0 := by
  have h1 := hi.sum
  have h2 : n * (n * k) ≤ 100 * (100 * 100) := Nat.mul_le_mul hn (Nat.mul_le_mul hn hk)
  have h3 := hi.dir.len
  unfold appE
  split
  · rfl
  · rw [if_neg (by omega), if_neg (by omega)]
theorem App.quota {d d' : DSt} {s : ByteArray} {b : List Int} (h : App d s b d') (hq : d.quota < 0) : d'.quota < 0 := by
  have h1 : newQ d b.length = d.quota := by unfold newQ; rw [if_neg (by omega)]
  rcases h with ⟨_, rfl⟩ | ⟨_, f, v1, _, _, rfl⟩ | ⟨_, _, g, v1, vch1, _, rfl⟩
  · exact hq
  · show newQ d b.length < 0
    rw [h1]; exact hq
  · show newQ d b.length < 0
    rw [h1]; exact hq
theorem putM_key_mem {α : Type} {l : List (ByteArray × α)} {s : ByteArray} {v : α} {t : ByteArray} : t ∈ (putM l s v).map (·.1) ↔ t = s ∨ t ∈ l.map (·.1) := by
  have h1 := getM_none (l := putM l s v) (s := t)
  have h2 := getM_none (l := l) (s := t)
  rw [getM_put] at h1
  by_cases h : s = t
  · rw [if_pos h] at h1
    have : t ∈ (putM l s v).map (·.1) := Classical.byContradiction fun hc => by cases h1.2 hc
    exact ⟨fun _ => .inl h.symm, fun _ => this⟩
  · rw [if_neg h] at h1
    constructor
    · intro hm
      refine .inr (Classical.byContradiction fun hc => ?_)
      exact (h1.1 (h2.2 hc)) hm
    · rintro (rfl | hm)
      · exact absurd rfl h
      · exact Classical.byContradiction fun hc => (h2.1 (h1.2 hc)) hm
theorem App.names {d d' : DSt} {s : ByteArray} {b : List Int} (h : App d s b d') (t : ByteArray) : t ∈ d'.dir.map (·.1) ↔ t ∈ d.dir.map (·.1) ∨ (appE d s b.length = 0 ∧ t = s) := by
  rcases h with ⟨h0, rfl⟩ | ⟨h0, f, v1, _, hg, rfl⟩ | ⟨h0, _, g, v1, vch1, _, rfl⟩
  · exact ⟨.inl, fun h => h.elim id (fun h => absurd h.1 h0)⟩
  · refine ⟨.inl, fun h => h.elim id (fun h => ?_)⟩
    rw [h.2]
    exact List.mem_map.2 ⟨_, getM_mem hg, rfl⟩
  · rw [show (addF d s b g v1 vch1).dir = putM d.dir s g from rfl, putM_key_mem]
    exact ⟨fun h => h.elim (fun h => .inr ⟨h0, h⟩) .inl, fun h => h.elim .inr (fun h => .inl h.2)⟩
theorem info9 : (Try.prog.info? 9).map (fun i => (i.zero, i.size, i.bytes)) = some (some (.string ByteArray.empty), 1, 16) := by kernel_rfl
theorem badN (s : ByteArray) (h : s.size ≤ maxLen) : badName s = !(decide (1 ≤ (s.size : Int)) && decide ((s.size : Int) ≤ 30)) := by
  have : s.toList.isEmpty = decide (s.size = 0) := by
    rw [ByteArray.toList_eq, ← data_length]
    cases s.data.toList <;> simp
  unfold badName
  rw [this]
  by_cases h1 : s.size = 0
  · simp [h1]
  · by_cases h2 : s.size ≤ 30
    · rw [decide_eq_false h1, decide_eq_false (by omega : ¬ (30 : Int) < (s.size : Int)), decide_eq_true (by omega : (1 : Int) ≤ (s.size : Int)), decide_eq_true (by omega : (s.size : Int) ≤ 30)]
      rfl
    · rw [decide_eq_false h1, decide_eq_true (by omega : (30 : Int) < (s.size : Int)), decide_eq_false (by omega : ¬ (s.size : Int) ≤ 30)]
      simp
def nO : ByteArray := ⟨#[111, 116, 104, 101, 114]⟩
theorem badO : badName nO = false := by decide +kernel
theorem sortL_length (l : List ByteArray) : (sortL l).length = l.length := by
  unfold sortL
  rw [List.length_map, List.length_mergeSort, List.length_map]
theorem strB_toList (b : List UInt8) : (strB b).toList = b := by rw [ByteArray.toList_eq]; rfl
theorem sortL_lt {L l : List ByteArray} (hL : L = sortL l) (hn : l.Nodup) (j : Nat) (hj : j + 1 < L.length) : Op.bytesLess (rdOf ByteArray.empty L (j : Int)).toList (rdOf ByteArray.empty L ((j + 1 : Nat) : Int)).toList = true := by
  have hp := List.mergeSort_perm (l.map (·.data.toList)) fun x y => decide (x ≤ y)
  have hs : ((l.map (·.data.toList)).mergeSort fun x y => decide (x ≤ y)).Pairwise fun x y => decide (x ≤ y) = true :=
    List.pairwise_mergeSort (fun a b c h1 h2 => by simp only [decide_eq_true_eq] at *; exact List.le_trans h1 h2) (fun a b => by simp only [Bool.or_eq_true, decide_eq_true_eq]; exact List.le_total a b) _
  have hnd : ((l.map (·.data.toList)).mergeSort fun x y => decide (x ≤ y)).Nodup := hp.nodup_iff.2 (by
    rw [List.nodup_iff_pairwise_ne, List.pairwise_map]
    rw [List.nodup_iff_pairwise_ne] at hn
    exact hn.imp fun h he => h (congrArg strB he))
  have hL2 : L = ((l.map (·.data.toList)).mergeSort fun x y => decide (x ≤ y)).map strB := hL
  generalize ((l.map (·.data.toList)).mergeSort fun x y => decide (x ≤ y)) = M at hL2 hs hnd
  subst hL2
  rw [List.length_map] at hj
  have e : ∀ k : Nat, k < M.length → ∃ h : k < M.length, (rdOf ByteArray.empty (M.map strB) (k : Int)).toList = M[k] := fun k hk => ⟨hk, by
    rw [rdOf, Int.toNat_natCast, List.getD_eq_getElem?_getD, List.getElem?_map, List.getElem?_eq_getElem hk]
    exact strB_toList _⟩
  obtain ⟨h1, e1⟩ := e j (by omega)
  obtain ⟨h2, e2⟩ := e (j + 1) hj
  rw [e1, e2, Go.Proofs.bytesLess_eq, decide_eq_true_eq]
  refine List.not_le.1 fun hle => ?_
  have h3 := List.pairwise_iff_getElem.1 hs j (j + 1) h1 h2 (Nat.lt_succ_self j)
  have h4 := List.pairwise_iff_getElem.1 (List.nodup_iff_pairwise_ne.1 hnd) j (j + 1) h1 h2 (Nat.lt_succ_self j)
  exact h4 (List.le_antisymm (of_decide_eq_true h3) hle)
theorem nO_list : nO.toList = [111, 116, 104, 101, 114] := by rw [ByteArray.toList_eq]; rfl
theorem nO_ne {s : ByteArray} (h : ¬ nO = s) : ¬ s.toList = [111, 116, 104, 101, 114] := fun h2 => h (by
  rw [ByteArray.toList_eq] at h2
  exact (show nO = strB s.data.toList from (congrArg strB h2).symm))
theorem find_ok {d : DSt} {n k : Nat} (hi : Inv d n k) {s : ByteArray} (h : s ∈ d.dir.map (·.1)) : ∃ g, getM d.dir s = some g ∧ findR d s = (some g, 0) := by
  obtain ⟨p, hp, rfl⟩ := List.mem_map.1 h
  have hg := mem_getM hi.dir.keys (s := p.1) (v := p.2) hp
  refine ⟨p.2, hg, ?_⟩
  unfold findR
  rw [if_neg (by rw [hi.dir.good p hp]; decide), hg]
theorem ren_dst {d : DSt} {s t : ByteArray} {g : Nat} {v1 : Value} (hb : badName t = false) : findR (renD d s t g v1) t = (some g, 0) := by
  unfold findR
  rw [if_neg (by rw [hb]; decide)]
  rw [show (renD d s t g v1).dir = putM (delM d.dir s) t g from rfl]
  rw [getM_put, if_pos rfl]
theorem ren_src {d : DSt} {s t : ByteArray} {g : Nat} {v1 : Value} (hk : (d.dir.map (·.1)).Nodup) (hb : badName s = false) (hst : ¬ t = s) : findR (renD d s t g v1) s = (none, 25) := by
  unfold findR
  rw [if_neg (by rw [hb]; decide)]
  rw [show (renD d s t g v1).dir = putM (delM d.dir s) t g from rfl]
  rw [getM_put, if_neg hst, getM_del hk, if_pos rfl]
theorem rem_src {d : DSt} {s : ByteArray} {v1 : Value} (hk : (d.dir.map (·.1)).Nodup) (hb : badName s = false) : findR (remD d s v1) s = (none, 25) ∧ getM (remD d s v1).dir s = none := by
  have h : getM (delM d.dir s) s = none := by rw [getM_del hk, if_pos rfl]
  refine ⟨?_, h⟩
  unfold findR
  rw [if_neg (by rw [hb]; decide)]
  rw [show (remD d s v1).dir = delM d.dir s from rfl, h]
theorem bytesOf_same {d d' : DSt} {s t : ByteArray} (h : (findR d' t).1 = (findR d s).1) (hf : d'.fs = d.fs) : bytesOf d' t = bytesOf d s := by
  unfold bytesOf
  rw [h, hf]
theorem app_read {d d' : DSt} {s : ByteArray} {b : List Int} (h : App d s b d') (h0 : appE d s b.length = 0) (hn : getM d.dir s = none) : findR d' s = ((findR d' s).1, 0) ∧ (findR d' s).2 = 0 ∧ bytesOf d' s = b := by
  rcases h with ⟨h1, _⟩ | ⟨_, f, v1, _, hg, _⟩ | ⟨_, _, g, v1, vch1, hg, rfl⟩
  · exact absurd h0 h1
  · rw [hn] at hg; cases hg
  · have hf : findR (addF d s b g v1 vch1) s = (some g, 0) := by
      unfold findR
      rw [if_neg (by rw [appE_good h0]; decide)]
      rw [show (addF d s b g v1 vch1).dir = putM d.dir s g from rfl]
      rw [getM_put, if_pos rfl]
    refine ⟨by rw [hf], by rw [hf], ?_⟩
    unfold bytesOf
    rw [hf]
    show (((d.fs ++ [(⟨g, v1, b, 0⟩ : FS)]).find? fun f => decide (f.g = g)).map (·.bs)).getD [] = b
    rw [List.find?_append, List.find?_eq_none.2 (fun f hf => by simpa using hg f hf)]
    simp
set_option maxHeartbeats 8000000 in
set_option maxRecDepth 100000 in
theorem namesW (W : World) (A0 : Option Addr) (c0 : Nat) (l : List ByteArray) (hr0 : Kd.C Kd.string W A0 l.length l) (hc0 : l.length ≤ c0) (hm0 : l.length ≤ maxLen) (ho0 : ∀ x ∈ l, x.size ≤ maxLen) (A : Option Addr) (c : Nat) (a : List Int) (hr : Kd.C (Kd.int .u8) W A a.length a) (hc : a.length ≤ c) (hm : a.length ≤ maxLen) (hw : ∀ x ∈ a, (Lit.int .u8 x).wf = true) (hy1 : a.length ≤ 140737488351232)
    (A2 : Option Addr) (c2 : Nat) (b : List Int) (hr2 : Kd.C (Kd.int .u8) W A2 b.length b) (hc2 : b.length ≤ c2) (hm2 : b.length ≤ maxLen) (hw2 : ∀ x ∈ b, (Lit.int .u8 x).wf = true) (hy2 : b.length ≤ 140737488351232) :
    Calls Try.prog 6 #[.slice A0 l.length c0, .slice A a.length c, .slice A2 b.length c2] W fun e w' => e = .returned (.bool true) ∧ Below W.heap.size W w' := by
  obtain ⟨x, hx⟩ : ∃ x, x = a.take 100 := ⟨_, rfl⟩
  obtain ⟨y, hy⟩ : ∃ y, y = b.take 100 := ⟨_, rfl⟩
  have hxl : x.length ≤ 100 := by rw [hx, List.length_take]; omega
  have hyl : y.length ≤ 100 := by rw [hy, List.length_take]; omega
  have HX := Aside0.mk (came_cutN 100 hr hx)
  have HY := Aside0.mk (came_cutN 100 hr2 hy)
  have HXL := Aside0.mk hxl
  have HYL := Aside0.mk hyl
  have HR0 := Aside0.mk hr0
  have HO0 := Aside0.mk ho0
  have HM0 := Aside0.mk hm0
  have hN := Lib.hid (stNew W)
  have hca := cut100 (A := A) hx hc
  have hcb := cut100 (A := A2) hy hc2
  clear hr hr2 hx hy hxl hyl hc hc2 hm hm2 hw hw2 hy1 hy2 hr0 hc0 hm0 ho0
  rcases hca with ⟨b1, hcutA⟩ | ⟨b1, rfl⟩ <;> rcases hcb with ⟨b2, hcutB⟩ | ⟨b2, rfl⟩
  all_goals
    go_enter Try.func6, Try.ntmps6
    go_wp2_with (go_at_call 11; refine hN.out.mono ?_; rintro e w1 ⟨gd, bd, bs, vch, rfl, hS⟩; have HS := Aside0.mk hS; clear hS)
    go_loopg [9, 8] (l.length + 1) (fun kq v9 v8 w' => ∃ (i : Nat) (d : DSt) (made : List ByteArray), v9 = .int .i64 (i : Int) ∧ Aside0 (l.length + 1 ≤ kq + i ∧ i ≤ l.length ∧ i ≤ 10 ∧ made.length ≤ i) ∧ Aside0 (d.gd = gd) ∧ Aside0 (Inv d i 100) ∧ Aside0 (d.quota < 0) ∧ Aside0 (∀ t, t ∈ made ↔ t ∈ d.dir.map (·.1)) ∧ Aside0 (Row Kd.string 9 w' d v8 made) ∧ Aside0 (∀ k, v8.ownBlock = some k → W.heap.size ≤ k) ∧ Aside0 (St W w' d))
    case atStart => exact ⟨0, _, [], rfl, ⟨by omega, Nat.zero_le _, Nat.zero_le _, Nat.zero_le _⟩, ⟨rfl⟩, ⟨Inv.new gd bd bs vch 100⟩, ⟨(by decide : (-1 : Int) < 0)⟩, ⟨fun t => by simp⟩, ⟨⟨Kd.R_nil _ _ _ _ _, fun k hk => (by cases hk)⟩⟩, ⟨fun k hk => (by cases hk)⟩, HS⟩
    case round =>
      clear HS hN
      obtain ⟨i, d, made, rfl, HI, HG, HIn, HQ, HM, HRow, HOwn, HSt⟩ := hrel
      obtain ⟨k1, rfl⟩ : ∃ k1, gk = k1 + 1 := ⟨gk - 1, by have := HI.out; omega⟩
      obtain ⟨hg⟩ := HG
      subst hg
      by_cases hi : i < l.length ∧ i < 10
      · have b1 : decide (i < l.length) = true := decide_eq_true hi.1
        have b2 : decide ((i : Int) < 10) = true := decide_eq_true (by omega)
        obtain ⟨ad, hA, hcell⟩ := Kd.at_string (Kd.C_below HR0.out HSt.out.below) (i : Int) (by omega) (by omega)
        subst hA
        rw [Int.toNat_natCast] at hcell
        have hsm : (rdOf ByteArray.empty l (i : Int)).size ≤ maxLen := HO0.out _ (by rw [rdOf, Int.toNat_natCast, List.getD_eq_getElem?_getD, List.getElem?_eq_getElem hi.1]; exact List.getElem_mem _)
        generalize rdOf ByteArray.empty l (i : Int) = s at hcell hsm
        have HSM := Aside0.mk hsm
        have HIL := Aside0.mk hi
        have hil := hi.1
        clear hi hsm
        have hAp := Lib.hid (appG HSt.out.at_ HIn.out (by have := HI.out; omega) (by decide) (s := s) (cp := c) (HSt.out.came HX.out) HXL.out)
        rw [appE_small HIn.out (by have := HI.out; omega) (by decide) HQ.out HXL.out] at hAp
        have hAN := fun d' (hA : App d s x d') t => hA.names t
        rw [appE_small HIn.out (by have := HI.out; omega) (by decide) HQ.out HXL.out] at hAN
        have hwi : IntKind.i64.wrap ((i : Int) + 1) = ((i + 1 : Nat) : Int) := by have := HIL.out; rw [IntKind.wrap_i64]; omega
        have hbn := badN s HSM.out
        have HI2 : Aside0 (l.length + 1 ≤ k1 + (i + 1) ∧ i + 1 ≤ l.length ∧ i + 1 ≤ 10) := ⟨by have := HI.out; have := HIL.out; omega⟩
        by_cases hgood : 1 ≤ s.size ∧ s.size ≤ 30
        · have q1 : decide ((1 : Int) ≤ (s.size : Int)) = true := decide_eq_true (by omega)
          have q2 : decide ((s.size : Int) ≤ 30) = true := decide_eq_true (by omega)
          rw [q1, q2] at hbn
          rw [hbn, if_neg (by decide)] at hAp
          simp only [hbn] at hAN
          have HAN := Lib.hid hAN
          clear hAN hbn hgood
          obtain ⟨A8, c8, e8⟩ := Kd.R_slice HRow.out.r
          subst e8
          go_upto_region 14 with (go_at_call 13; refine hAp.out.mono ?_; rintro e w3 ⟨rfl, d', hA, hD, hG, hIn⟩; have HQ' := Aside0.mk (hA.quota HQ.out); have HA := Aside0.mk (HAN.out d' hA); have HG' : Aside0 (d'.gd = d.gd) := ⟨hG.gd⟩; have HIn' := Aside0.mk hIn; have HSt' := Aside0.mk (HSt.out.goes hD hG); have HRow' := Aside0.mk (HRow.out.goes rfl hG); clear hA hD hG hIn)
          go_wp2_with ((with_reducible refine gate_builtin (b := .append) (xs := #[.tmp 80, .tmp 82]) rfl ?_); at_builtin; refine Kd.R_append Kd.string (w0 := w3) 0 rfl (.tmp 80) (.tmp 82) 37 9 (.string ByteArray.empty) 16 rfl Try.underlying37 info9 rfl (by decide) (by omega) (.slice A8 made.length c8) made s [.string s] (fun _ => True) (fun _ => False) rfl rfl ?aP (fun _ hk => hk.elim) (fun _ _ => trivial) ?aO (Below.refl 0 w3) (Nat.zero_le _) ?aL ?_; (case aP => exact rfl); (case aO => exact HRow'.out.r); (case aL => have := HI.out; have := HIL.out; omega); intro v9 w9 ho9 hb9 hg9 hat9; obtain ⟨hs9, hr9, hw9⟩ := HSt'.out.append HRow'.out HOwn.out ho9 hg9 hat9; have HS9 := Aside0.mk hs9; have HR9 := Aside0.mk hr9; have HW9 := Aside0.mk hw9; clear ho9 hb9 hg9 hat9 hs9 hr9 hw9)
          have HMM : Aside0 (∀ t, t ∈ made ++ [s] ↔ t ∈ d'.dir.map (·.1)) := ⟨fun t => by rw [HA.out t, ← HM.out t]; simp⟩
          go_roundg k1
          case measure => omega
          case rel => exact ⟨i + 1, d', made ++ [s], by first | rfl | (rw [hwi]; done) | (simp [hwi]; done), ⟨by have := HI.out; have := HI2.out; simp only [List.length_append, List.length_singleton]; omega⟩, HG', HIn', HQ', HMM, HR9, HW9, HS9⟩
        · have hbad : badName s = true := by
            rw [hbn]
            by_cases h1 : 1 ≤ s.size
            · rw [decide_eq_false (by omega : ¬ (s.size : Int) ≤ 30), Bool.and_false]; rfl
            · rw [decide_eq_false (by omega : ¬ (1 : Int) ≤ (s.size : Int))]; rfl
          rw [hbad, if_pos rfl] at hAp
          simp only [hbad] at hAN
          have HAN := Lib.hid hAN
          have hd : (decide ((1 : Int) ≤ (s.size : Int)) = true ∧ decide ((s.size : Int) ≤ 30) = false) ∨ decide ((1 : Int) ≤ (s.size : Int)) = false := by
            by_cases h1 : 1 ≤ s.size
            · exact .inl ⟨decide_eq_true (by omega), decide_eq_false (by omega)⟩
            · exact .inr (decide_eq_false (by omega))
          clear hAN hbn hgood hbad
          rcases hd with ⟨q1, q2⟩ | q1
          all_goals
            go_upto_region 14 with (go_at_call 13; refine hAp.out.mono ?_; rintro e w3 ⟨rfl, d', hA, hD, hG, hIn⟩; have HQ' := Aside0.mk (hA.quota HQ.out); have HA := Aside0.mk (HAN.out d' hA); have HG' : Aside0 (d'.gd = d.gd) := ⟨hG.gd⟩; have HIn' := Aside0.mk hIn; have HSt' := Aside0.mk (HSt.out.goes hD hG); have HRow' := Aside0.mk (HRow.out.goes rfl hG); clear hA hD hG hIn)
            have HMM : Aside0 (∀ t, t ∈ made ↔ t ∈ d'.dir.map (·.1)) := ⟨fun t => by rw [HA.out t, ← HM.out t]; simp⟩
            go_wp2
            go_roundg k1
            case measure => omega
            case rel => exact ⟨i + 1, d', made, by first | rfl | (rw [hwi]; done) | (simp [hwi]; done), ⟨by have := HI.out; have := HI2.out; omega⟩, HG', HIn', HQ', HMM, HRow', HOwn, HSt'⟩
      · have hd : decide (i < l.length) = false ∨ (decide (i < l.length) = true ∧ decide ((i : Int) < 10) = false) := by
          by_cases h1 : i < l.length
          · exact .inr ⟨decide_eq_true h1, decide_eq_false (by omega)⟩
          · exact .inl (decide_eq_false h1)
        obtain ⟨A8, c8, e8⟩ := Kd.R_slice HRow.out.r
        subst e8
        have HI10 : Aside0 (i ≤ 10) := ⟨HI.out.2.2.1⟩
        have hL := Lib.hid (listG HSt.out.at_ HIn.out (by have := HI10.out; omega))
        obtain ⟨L, hLe⟩ : ∃ L, L = sortL (d.dir.map (·.1)) := ⟨_, rfl⟩
        rw [← hLe] at hL
        have HL := Aside0.mk hLe
        clear hi HI hLe HM0 HO0 HR0
        rcases hd with b1 | ⟨b1, b2⟩
        all_goals
          go_wp2_with (go_at_call 20; refine hL.out.mono ?_; rintro e w3 ⟨v, rfl, hR, hv, hD, hG⟩; obtain ⟨A9, c9, e9⟩ := Kd.R_slice hR.r; subst e9; have HRl := Aside0.mk hR; have HG1 : Aside0 (Goes wr d w3 d) := ⟨hG⟩; have HS1 := Aside0.mk (HSt.out.goes hD hG); have HR1 := Aside0.mk (HRow.out.goes rfl hG); clear hR hv hD hG HRow HSt)
          clear hL
          go_loopg [13] (L.length + 1) (fun kq v13 w' => ∃ (m : Nat), v13 = .int .i64 (m : Int) ∧ Aside0 (1 ≤ m ∧ m ≤ L.length + 1 ∧ L.length + 2 ≤ kq + m) ∧ Aside0 (Row Kd.string 9 w' d (.slice A9 L.length c9) L) ∧ Aside0 (Row Kd.string 9 w' d (.slice A8 made.length c8) made) ∧ Aside0 (St W w' d))
          case atStart => exact ⟨1, rfl, ⟨by omega⟩, HRl, HR1, HS1⟩
          case round =>
            clear HRl HR1 HS1
            obtain ⟨m, rfl, HJ, HRl1, HR1, HSt1⟩ := hrel
            by_cases hj : m < L.length
            · have b3 : decide (m < L.length) = true := decide_eq_true hj
              obtain ⟨k2, rfl⟩ : ∃ k2, gk = k2 + 1 := ⟨gk - 1, by have := HJ.out; omega⟩
              obtain ⟨j, hmj⟩ : ∃ j, m = j + 1 := ⟨m - 1, by have := HJ.out; omega⟩
              obtain ⟨hn9, _, hC9⟩ := Kd.R_reads' HRl1.out.r
              obtain ⟨adl, hAl, hc1⟩ := Kd.at_string hC9 (j : Int) (by omega) (by omega)
              obtain ⟨adl', hAl', hc2⟩ := Kd.at_string hC9 (m : Int) (by omega) (by omega)
              subst hAl
              injection hAl' with hAl'
              subst hAl'
              rw [Int.toNat_natCast] at hc1 hc2
              have hlt := sortL_lt HL.out HIn.out.dir.keys j (hmj ▸ hj)
              rw [← hmj] at hlt
              generalize rdOf ByteArray.empty L (j : Int) = a1 at hc1 hlt
              generalize rdOf ByteArray.empty L (m : Int) = a2 at hc2 hlt
              have hLl : L.length ≤ 10 := by rw [HL.out, sortL_length, List.length_map]; exact Nat.le_trans HIn.out.dir.len HI10.out
              have hw1 : IntKind.i64.wrap ((m : Int) - 1) = (j : Int) := by rw [IntKind.wrap_i64]; omega
              have hwi : IntKind.i64.wrap ((m : Int) + 1) = ((m + 1 : Nat) : Int) := by rw [IntKind.wrap_i64]; omega
              have hj1 : j < L.length := by omega
              have HJ2 : Aside0 (1 ≤ m + 1 ∧ m + 1 ≤ L.length + 1 ∧ L.length + 2 ≤ k2 + (m + 1)) := ⟨by have := HJ.out; omega⟩
              clear hC9 hn9 hmj hLl
              go_upto_region 22 with (fail)
              refine hstart (fun w' => w'.cell? (adl.add j) = some (.string a1) ∧ w'.cell? (adl.add m) = some (.string a2)) [] 10 (by kernel_rfl) rfl (by kernel_rfl) (⟨hc1, hc2⟩) (fun w_ hw_ s_ => ?_)
              have HSt2 := Aside0.mk (show St W w_ d from hw_ ▸ HSt1.out.more (below_drew (Below.refl _ _)))
              have HRl2 := Aside0.mk (show Row Kd.string 9 w_ d (.slice (some adl) L.length c9) L from hw_ ▸ HRl1.out.goes rfl (Goes.of_below d (below_drew (Below.refl _ _))))
              have HR2 := Aside0.mk (show Row Kd.string 9 w_ d (.slice A8 made.length c8) made from hw_ ▸ HR1.out.goes rfl (Goes.of_below d (below_drew (Below.refl _ _))))
              clear hw_ HSt1 HRl1 HR1 hc1 hc2
              refine hpure 0 (some 92) 1 [] (v := ?_) (a' := ?_) s_ rfl rfl (by kernel_rfl) (Or.inl ⟨by rfl, ?_⟩) ?_ ?_
              rotate_left
              · intro w' s0; go_simp; with_reducible rfl
              rotate_left
              · simp only [Act.put, List.setIfInBounds_toArray, List.set_cons_zero, List.set_cons_succ, i64_w, i32_w]; rfl
              refine hpure 1 (some 93) 2 [] (v := ?_) (a' := ?_) s_ rfl rfl (by kernel_rfl) (Or.inl ⟨by rfl, ?_⟩) ?_ ?_
              rotate_left
              · intro w' s0; go_simp; with_reducible rfl
              rotate_left
              · simp only [Act.put, List.setIfInBounds_toArray, List.set_cons_zero, List.set_cons_succ, i64_w, i32_w]; rfl
              refine hpure 2 (some 94) 3 [] (v := ?_) (a' := ?_) s_ rfl rfl (by kernel_rfl) (Or.inl ⟨by rfl, ?_⟩) ?_ ?_
              rotate_left
              · intro w' s0; go_simp; with_reducible rfl
              rotate_left
              · simp only [Act.put, List.setIfInBounds_toArray, List.set_cons_zero, List.set_cons_succ, i64_w, i32_w]; rfl
              refine hpure 3 (some 95) 4 [] (v := ?_) (a' := ?_) s_ rfl rfl (by kernel_rfl) (Or.inl ⟨by rfl, ?_⟩) ?_ ?_
              rotate_left
              · intro w' s0; go_simp; with_reducible rfl
              rotate_left
              · simp only [Act.put, List.setIfInBounds_toArray, List.set_cons_zero, List.set_cons_succ, i64_w, i32_w]; rfl
              refine hpure 4 (some 96) 5 [] (v := ?_) (a' := ?_) s_ rfl rfl (by kernel_rfl) (Or.inl ⟨by rfl, ?_⟩) ?_ ?_
              rotate_left
              · intro w' s0; have s1 := s0.1; go_simp; with_reducible rfl
              rotate_left
              · simp only [Act.put, List.setIfInBounds_toArray, List.set_cons_zero, List.set_cons_succ, i64_w, i32_w]; rfl
              refine hpure 5 (some 97) 6 [] (v := ?_) (a' := ?_) s_ rfl rfl (by kernel_rfl) (Or.inl ⟨by rfl, ?_⟩) ?_ ?_
              rotate_left
              · intro w' s0; go_simp; with_reducible rfl
              rotate_left
              · simp only [Act.put, List.setIfInBounds_toArray, List.set_cons_zero, List.set_cons_succ, i64_w, i32_w]; rfl
              refine hpure 6 (some 98) 7 [] (v := ?_) (a' := ?_) s_ rfl rfl (by kernel_rfl) (Or.inl ⟨by rfl, ?_⟩) ?_ ?_
              rotate_left
              · intro w' s0; go_simp; with_reducible rfl
              rotate_left
              · simp only [Act.put, List.setIfInBounds_toArray, List.set_cons_zero, List.set_cons_succ, i64_w, i32_w]; rfl
              refine hpure 7 (some 99) 8 [] (v := ?_) (a' := ?_) s_ rfl rfl (by kernel_rfl) (Or.inl ⟨by rfl, ?_⟩) ?_ ?_
              rotate_left
              · intro w' s0; go_simp; with_reducible rfl
              rotate_left
              · simp only [Act.put, List.setIfInBounds_toArray, List.set_cons_zero, List.set_cons_succ, i64_w, i32_w]; rfl
              refine hpure 8 (some 100) 9 [] (v := ?_) (a' := ?_) s_ rfl rfl (by kernel_rfl) (Or.inl ⟨by rfl, ?_⟩) ?_ ?_
              rotate_left
              · intro w' s0; have s1 := s0.2; go_simp; with_reducible rfl
              rotate_left
              · simp only [Act.put, List.setIfInBounds_toArray, List.set_cons_zero, List.set_cons_succ, i64_w, i32_w]; rfl
              refine hpure 9 (some 101) 10 [] (v := ?_) (a' := ?_) s_ rfl rfl (by kernel_rfl) (Or.inl ⟨by rfl, ?_⟩) ?_ ?_
              rotate_left
              · intro w' s0; go_simp; with_reducible rfl
              rotate_left
              · simp only [Act.put, List.setIfInBounds_toArray, List.set_cons_zero, List.set_cons_succ, i64_w, i32_w]; rfl
              refine hdone (by kernel_rfl) ?_
              go_wp2
              go_roundg k2
              case measure => omega
              case rel => exact ⟨m + 1, by first | rfl | (rw [hwi]; done) | (simp [hwi]; done), HJ2, HRl2, HR2, HSt2⟩
            · have b3 : decide (m < L.length) = false := decide_eq_false hj
              clear hj HJ
              cases made with
              | nil =>
                have hdir : d.dir.map (·.1) = [] := List.eq_nil_iff_forall_not_mem.2 fun t ht => by have := (HM.out t).2 ht; cases this
                obtain rfl : L = [] := by rw [HL.out, hdir]; simp [sortL]
                have hk := knownC wr
                go_wp2_with (go_at_call 15; refine hk.mono ?_; rintro e w4 ⟨rfl, hb⟩; have HB := Aside0.mk hb; clear hb)
                go_ret
                exact ⟨rfl, (HSt1.out.more HB.out).below⟩
              | cons s rest =>
                have hsd : s ∈ d.dir.map (·.1) := (HM.out s).1 (List.mem_cons_self ..)
                obtain ⟨g, hg, hfd⟩ := find_ok HIn.out hsd
                have hsb : badName s = false := by
                  obtain ⟨p, hp, rfl⟩ := List.mem_map.1 hsd
                  exact HIn.out.dir.good p hp
                obtain ⟨_, _, hCm⟩ := Kd.R_reads' HR1.out.r
                obtain ⟨adm, hAm, hc0⟩ := Kd.at_string hCm 0 (by decide) (by simp only [List.length_cons]; omega)
                subst hAm
                replace hc0 : wr.cell? (adm.add 0) = some (.string s) := hc0
                rw [show adm.add 0 = adm from by simp [Addr.add]] at hc0
                have hq1 := Lib.hid (readG HSt1.out.at_ HIn.out (by have := HI10.out; omega) (by decide) s)
                rw [hfd] at hq1
                go_upto_region 28 with (go_at_call 14; refine hq1.out.mono ?_; rintro e w4 ⟨v15, rfl, hR, hD, hG⟩; have HS4 := Aside0.mk (HSt1.out.goes hD hG); have HB15 := Aside0.mk hR; clear hR hD hG)
                have hq2 := Lib.hid (renG HS4.out.at_ HIn.out (by have := HI10.out; omega) s nO)
                rw [show renE d s nO = 0 from by unfold renE; rw [if_neg (by rw [badO]; decide), hfd]] at hq2
                go_upto_region 29 with (go_at_call 19; refine hq2.out.mono ?_; rintro e w5 ⟨rfl, d1, hRe, hD, hG, hI⟩; have HRe := Aside0.mk hRe; have HS5 := Aside0.mk (HS4.out.goes hD hG); have HB15' := Aside0.mk (HB15.out.goes rfl hG); have HG1 := Aside0.mk hG.gd; have HI1 := Aside0.mk hI; clear hRe hD hG hI)
                obtain ⟨v1, rfl⟩ : ∃ v1, d1 = renD d s nO g v1 := by
                  rcases HRe.out with ⟨h | h, _⟩ | ⟨_, g', v1, h, h2⟩
                  · rw [badO] at h; cases h
                  · rw [hfd] at h; cases h
                  · rw [hfd] at h; injection h with h; subst h; exact ⟨v1, h2⟩
                have hfo : findR (renD d s nO g v1) nO = (some g, 0) := ren_dst badO
                have hbo : bytesOf (renD d s nO g v1) nO = bytesOf d s := bytesOf_same (by rw [hfo, hfd]) rfl
                have hq3 := Lib.hid (readG HS5.out.at_ HI1.out (by have := HI10.out; omega) (by decide) nO)
                have hq4 := fun w (h : DiskAt w (renD d s nO g v1)) => readG h HI1.out (by have := HI10.out; omega) (by decide) s
                rw [hfo, hbo] at hq3
                obtain ⟨r, hr1, hr2⟩ : ∃ r, (findR (renD d s nO g v1) s).2 = r ∧ ((s = nO ∧ r = 0) ∨ (¬ nO = s ∧ r = 25)) := by
                  by_cases h : nO = s
                  · exact ⟨0, by have h2 := hfo; rw [h] at h2; rw [h, h2], .inl ⟨h.symm, rfl⟩⟩
                  · exact ⟨25, by rw [ren_src HIn.out.dir.keys hsb h], .inr ⟨h, rfl⟩⟩
                simp only [hr1] at hq4
                have hq4 := Lib.hid hq4
                go_upto_region 30 with (go_at_call 14; refine hq3.out.mono ?_; rintro e w6 ⟨v18, rfl, hR, hD, hG⟩; have HS6 := Aside0.mk (HS5.out.goes hD hG); have HB18 := Aside0.mk hR; have HB15a := Aside0.mk (HB15'.out.goes rfl hG); clear hR hD hG)
                go_upto_region 31 with (go_at_call 14; refine (hq4.out _ HS6.out.at_).mono ?_; rintro e w7 ⟨v20, rfl, hR, hD, hG⟩; have HS7 := Aside0.mk (HS6.out.goes hD hG); have HB18' := Aside0.mk (HB18.out.goes rfl hG); have HB15b := Aside0.mk (HB15a.out.goes rfl hG); clear hR hD hG)
                obtain ⟨Ax, cx, ex⟩ := Kd.R_slice HB15b.out.r
                obtain ⟨Ay, cy, ey⟩ := Kd.R_slice HB18'.out.r
                subst ex ey
                have cx1 : (convert 29 9 (.slice Ax (bytesOf d s).length cx)).run Try.prog w7 = .ok (.string (strOfNums (bytesOf d s))) w7 := Kd.C_string Try.underlying29 Try.underlying5 Try.underlying9 (Kd.R_reads' HB15b.out.r).2.2
                have cy1 : (convert 29 9 (.slice Ay (bytesOf d s).length cy)).run Try.prog w7 = .ok (.string (strOfNums (bytesOf d s))) w7 := Kd.C_string Try.underlying29 Try.underlying5 Try.underlying9 (Kd.R_reads' HB18'.out.r).2.2
                clear hq1 hq2 hq3 hq4 hc0 hCm
                have hq5 := Lib.hid (remG HS7.out.at_ HI1.out (by have := HI10.out; omega) nO)
                rw [hfo] at hq5
                clear HS4 HS5 HS6 HB15 HB15' HB15a HB18 HRl1 HR1 HSt1 HRe
                generalize bytesOf d s = bx at *
                generalize strOfNums bx = sbx at *
                rcases hr2 with ⟨hso, rfl⟩ | ⟨hso, rfl⟩
                rotate_left 1
                have hso2 := nO_ne hso
                clear hso
                rotate_left 1
                have hso2 : s.toList = [111, 116, 104, 101, 114] := by rw [hso]; exact nO_list
                clear hso
                rotate_left 1
                all_goals
                  go_upto_region 33 with (fail)
                  go_upto_region 34 with (go_at_call 21; refine hq5.out.mono ?_; rintro e w8 ⟨rfl, d2, hRe, hD, hG, hI⟩; have HRe := Aside0.mk hRe; have HS8 := Aside0.mk (HS7.out.goes hD hG); have HG2 := Aside0.mk hG.gd; have HI2 := Aside0.mk hI; clear hRe hD hG hI)
                  obtain ⟨v2, rfl⟩ : ∃ v2, d2 = remD (renD d s nO g v1) nO v2 := by
                    rcases HRe.out with ⟨h, _⟩ | ⟨g', v2, h, h2⟩
                    · rw [hfo] at h; cases h
                    · exact ⟨v2, h2⟩
                  have hfr := rem_src (v1 := v2) HI1.out.dir.keys badO
                  have hq6 := Lib.hid (readG HS8.out.at_ HI2.out (by have := HI10.out; omega) (by decide) nO)
                  rw [hfr.1] at hq6
                  have ha0 : appE (remD (renD d s nO g v1) nO v2) nO y.length = 0 := by rw [appE_small HI2.out (by have := HI10.out; omega) (by decide) HQ.out HYL.out, badO]; rfl
                  have hq7 := fun w (h : DiskAt w (remD (renD d s nO g v1) nO v2)) (hb : Bytes w (remD (renD d s nO g v1) nO v2) A2 y) => appG h HI2.out (by have := HI10.out; omega) (by decide) (s := nO) (cp := c2) hb HYL.out
                  simp only [ha0] at hq7
                  have hq7 := Lib.hid hq7
                  go_upto_region 35 with (go_at_call 14; refine hq6.out.mono ?_; rintro e w9 ⟨v23, rfl, hR, hD, hG⟩; have HS9 := Aside0.mk (HS8.out.goes hD hG); clear hR hD hG)
                  go_upto_region 36 with (go_at_call 13; refine (hq7.out _ HS9.out.at_ (HS9.out.came HY.out)).mono ?_; rintro e wa ⟨rfl, d3, hAp, hD, hG, hI⟩; have HAp := Aside0.mk hAp; have HSa := Aside0.mk (HS9.out.goes hD hG); have HG3 := Aside0.mk hG.gd; have HI3 := Aside0.mk hI; clear hAp hD hG hI)
                  obtain ⟨_, hr3, hb3⟩ := app_read HAp.out ha0 hfr.2
                  have hq8 := Lib.hid (readG HSa.out.at_ HI3.out (by have := HI10.out; omega) (by decide) nO)
                  rw [hr3, hb3, HG3.out] at hq8
                  go_upto_region 37 with (go_at_call 14; refine hq8.out.mono ?_; rintro e wb ⟨v26, rfl, hR, hD, hG⟩; have HSb := Aside0.mk (HSa.out.goes hD hG); have HB26 := Aside0.mk hR; clear hR hD hG)
                  obtain ⟨Az, cz, ez⟩ := Kd.R_slice HB26.out.r
                  subst ez
                  have cz1 : (convert 29 9 (.slice Az y.length cz)).run Try.prog wb = .ok (.string (strOfNums y)) wb := Kd.C_string Try.underlying29 Try.underlying5 Try.underlying9 (Kd.R_reads' HB26.out.r).2.2
                  have cy2 : (convert 29 9 (.slice A2 y.length c2)).run Try.prog wb = .ok (.string (strOfNums y)) wb := Kd.C_string Try.underlying29 Try.underlying5 Try.underlying9 (HSb.out.came HY.out).c
                  have hk := knownC
                  go_wp2_with (go_at_call 15; refine (hk _).mono ?_; rintro e wc ⟨rfl, hb⟩; have HSc := Aside0.mk (HSb.out.more hb); clear hb)
                  go_ret
                  exact ⟨rfl, HSc.out.below⟩
end Go.Proofs.Ytoninmgglcepmaa.Dk
