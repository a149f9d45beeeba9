/- A file's other name, a name without its file, a byte turned: the walks of Rename, Remove, Turn. -/
import Derived.Test.YtoninmgglcepmaaD10
namespace Go.Proofs.Ytoninmgglcepmaa.Dk
open RegD Go.RowKit Go.ChangeMaps Go.Proofs.YtoninmgglcepmaaW.PrintWords Go.Proofs.YtoninmgglcepmaaW.PrintLast Go.Proofs.YtoninmgglcepmaaW.PrintMore Mp
attribute [local go_sem] max2_int min2_int max_two min_two max_three min_three max_four min_four
set_option linter.unusedVariables false
set_option linter.unusedSimpArgs false
theorem find_get {d : DSt} {s : ByteArray} {g : Nat} (h : (findR d s).1 = some g) : badName s = false ∧ getM d.dir s = some g := by
  unfold findR at h
  split at h
  · cases h
  · next hb =>
    split at h
    · cases h
    · next g' hg =>
      simp only [Option.some.injEq] at h
      subst h
      exact ⟨by simpa using hb, hg⟩
def renE (d : DSt) (s t : ByteArray) : Int := if badName t = true then 20 else (findR d s).2
def renD (d : DSt) (s t : ByteArray) (g : Nat) (v1 : Value) : DSt := { d with dir := putM (delM d.dir s) t g, vch := v1, chg := d.chg ++ [⟨1, s, t, none⟩] }
def remD (d : DSt) (s : ByteArray) (v1 : Value) : DSt := { d with dir := delM d.dir s, vch := v1, chg := d.chg ++ [⟨2, s, ByteArray.empty, none⟩] }
theorem foot_turned {w : World} {d : DSt} {l2 : List (ByteArray × Nat)} {v1 : Value} {chg : List Chg} (hv : v1.ownBlock = d.vch.ownBlock ∨ ∃ b, v1.ownBlock = some b ∧ w.heap.size ≤ b) (k : Nat) (hk : Foot { d with dir := l2, vch := v1, chg := chg } k) : Foot d k ∨ w.heap.size ≤ k := by
  rcases hk with hk | hk | hk | hk | hk
  · exact .inl (.inl hk)
  · exact .inl (.inr (.inl hk))
  · exact .inl (.inr (.inr (.inl hk)))
  · rcases hv with hv | ⟨b, hv, hb⟩
    · exact .inl (.inr (.inr (.inr (.inl (hv ▸ hk)))))
    · simp only at hk
      rw [hv] at hk
      injection hk with hk
      exact .inr (hk ▸ hb)
  · exact .inl (.inr (.inr (.inr (.inr hk))))
theorem turnL {w : World} {d : DSt} (h : DiskAt w d) (k : Int) (s t : ByteArray) {l2 : List (ByteArray × Nat)} (h2 : doM d.dir ⟨k, s, t, none⟩ = some l2) (hlen : d.chg.length ≤ 1000000000) :
    Calls Try.prog 37 #[.pointer (some ⟨d.gd, 0, none⟩), .agg #[.int .i64 k, .string s, .string t, .pointer none]] w fun e w' => ∃ v1, e = .returned (.tuple #[]) ∧ DiskAt w' { d with dir := l2, vch := v1, chg := d.chg ++ [⟨k, s, t, none⟩] } ∧ (v1.ownBlock = d.vch.ownBlock ∨ ∃ b, v1.ownBlock = some b ∧ w.heap.size ≤ b) ∧ Kept w w' (Foot d) :=
  turnC h ⟨k, s, t, none⟩ h2 (by omega)
set_option maxHeartbeats 8000000 in
set_option maxRecDepth 100000 in
theorem renameNo {w : World} {d : DSt} (h : DiskAt w d) (s t : ByteArray) (hn : badName t = true ∨ (findR d s).1 = none) : Calls Try.prog 19 #[.pointer (some ⟨d.gd, 0, none⟩), .string s, .string t] w fun e w' => e = .returned (.int .i64 (renE d s t)) ∧ Below w.heap.size w w' := by
  have hB := Aside0.mk (below_alloc (Below.refl w.heap.size w) (.cells #[.string t] 9))
  by_cases hb : badName t = true
  · have hN := Lib.hid (names1 t w (t := false) (by rw [hb]; rfl))
    unfold renE
    rw [if_pos hb]
    clear h hn hb
    go_enter Try.func19, Try.ntmps19
    go_wp2_with (go_at_call 36; refine hN.out.mono ?_; rintro e w1 ⟨rfl, rfl⟩)
    go_ret
    exact ⟨rfl, hB.out⟩
  · have hb' : badName t = false := by simpa using hb
    have hf := findC (h.below hB.out) s
    have hne := find_none (hn.resolve_left hb)
    rw [hn.resolve_left hb] at hf
    unfold renE
    rw [if_neg hb]
    have hN := Lib.hid (names1 t w (t := true) (by rw [hb']; rfl))
    generalize (findR d s).2 = q at hf hne
    have c1 : (q == 0) = false := beq_eq_false_iff_ne.mpr hne
    unfold pv at hf
    dsimp only [Option.map] at hf
    have HF := Lib.hid hf
    clear h hn hb hb' hne hf
    go_enter Try.func19, Try.ntmps19
    go_wp2_with (first
      | (go_at_call 36; refine hN.out.mono ?_; rintro e w1 ⟨rfl, rfl⟩)
      | (go_at_call 38; refine HF.out.mono ?_; rintro e w2 ⟨rfl, hb⟩; have HB := Aside0.mk (below_step hB.out hb); clear hb))
    go_ret
    exact ⟨rfl, HB.out⟩
set_option maxHeartbeats 8000000 in
set_option maxRecDepth 100000 in
theorem renameOk {w : World} {d : DSt} (h : DiskAt w d) (s t : ByteArray) {g : Nat} (hb : badName t = false) (hn : (findR d s).1 = some g) (hlen : d.chg.length ≤ 1000000000) :
    Calls Try.prog 19 #[.pointer (some ⟨d.gd, 0, none⟩), .string s, .string t] w fun e w' => e = .returned (.int .i64 0) ∧ ∃ v1, DiskAt w' (renD d s t g v1) ∧ Kept w w' (Foot d) ∧ (∀ k, Foot (renD d s t g v1) k → Foot d k ∨ w.heap.size ≤ k) := by
  have hB := Aside0.mk (below_alloc (Below.refl w.heap.size w) (.cells #[.string t] 9))
  have HD1 := Aside0.mk (h.below hB.out)
  have hf := findC HD1.out s
  rw [hn, find_some hn] at hf
  have hN := Lib.hid (names1 t w (t := true) (by rw [hb]; rfl))
  have HDO := Aside0.mk (show doM d.dir ⟨1, s, t, none⟩ = some (putM (delM d.dir s) t g) from by
    unfold doM
    rw [if_neg (show ¬ (1 : Int) = 0 by decide), if_pos rfl, (find_get hn).2]
    rfl)
  unfold pv at hf
  dsimp only [Option.map] at hf
  have HF := Lib.hid hf
  have HL := Aside0.mk hlen
  clear h hn hb hf hlen
  go_enter Try.func19, Try.ntmps19
  go_wp2_with (first
    | (go_at_call 36; refine hN.out.mono ?_; rintro e w1 ⟨rfl, rfl⟩)
    | (go_at_call 38; refine HF.out.mono ?_; rintro e w2 ⟨rfl, hb⟩; have HD2 := Aside0.mk (HD1.out.below hb); have HB := Aside0.mk (below_step hB.out hb); clear hb)
    | (go_at_call 37; (with_reducible refine (turnL HD2.out 1 s t HDO.out HL.out).mono ?_); rintro e w3 ⟨v1, rfl, hD, hv, hK⟩; have HD3 := Aside0.mk hD; have HV := Aside0.mk hv; have HK := Aside0.mk hK; clear hD hv hK))
  go_ret
  exact ⟨rfl, v1, HD3.out, (Kept.of_below HB.out _).then_ HK.out (fun _ h => .inl h), fun k hk => foot_turned (HV.out.imp id (fun ⟨b, h1, h2⟩ => ⟨b, h1, Nat.le_trans HB.out.size h2⟩)) k hk⟩
set_option maxHeartbeats 8000000 in
set_option maxRecDepth 100000 in
theorem removeNo {w : World} {d : DSt} (h : DiskAt w d) (s : ByteArray) (hn : (findR d s).1 = none) : Calls Try.prog 21 #[.pointer (some ⟨d.gd, 0, none⟩), .string s] w fun e w' => e = .returned (.int .i64 (findR d s).2) ∧ Below w.heap.size w w' := by
  have hf := findC h s
  have hne := find_none hn
  rw [hn] at hf
  generalize (findR d s).2 = q at hf hne
  have c1 : (q == 0) = false := beq_eq_false_iff_ne.mpr hne
  unfold pv at hf
  dsimp only [Option.map] at hf
  clear h hn hne
  go_enter Try.func21, Try.ntmps21
  go_wp2_with (go_at_call 38; refine hf.mono ?_; rintro e w1 ⟨rfl, hb⟩; have HB := Aside0.mk hb; clear hb)
  go_ret
  exact ⟨rfl, HB.out⟩
set_option maxHeartbeats 8000000 in
set_option maxRecDepth 100000 in
theorem removeOk {w : World} {d : DSt} (h : DiskAt w d) (s : ByteArray) {g : Nat} (hn : (findR d s).1 = some g) (hlen : d.chg.length ≤ 1000000000) :
    Calls Try.prog 21 #[.pointer (some ⟨d.gd, 0, none⟩), .string s] w fun e w' => e = .returned (.int .i64 0) ∧ ∃ v1, DiskAt w' (remD d s v1) ∧ Kept w w' (Foot d) ∧ (∀ k, Foot (remD d s v1) k → Foot d k ∨ w.heap.size ≤ k) := by
  have hf := findC h s
  rw [hn, find_some hn] at hf
  have HDO := Aside0.mk (show doM d.dir ⟨2, s, ByteArray.empty, none⟩ = some (delM d.dir s) from by
    unfold doM
    rw [if_neg (show ¬ (2 : Int) = 0 by decide), if_neg (show ¬ (2 : Int) = 1 by decide), if_pos rfl])
  unfold pv at hf
  dsimp only [Option.map] at hf
  have HD := Aside0.mk h
  have HF := Lib.hid hf
  have HL := Aside0.mk hlen
  clear h hn hf hlen
  go_enter Try.func21, Try.ntmps21
  go_wp2_with (first
    | (go_at_call 38; refine HF.out.mono ?_; rintro e w2 ⟨rfl, hb⟩; have HD2 := Aside0.mk (HD.out.below hb); have HB := Aside0.mk hb; clear hb)
    | (go_at_call 37; refine (turnL HD2.out 2 s ByteArray.empty HDO.out HL.out).mono ?_; rintro e w3 ⟨v1, rfl, hD, hv, hK⟩; have HD3 := Aside0.mk hD; have HV := Aside0.mk hv; have HK := Aside0.mk hK; clear hD hv hK))
  go_ret
  exact ⟨rfl, v1, HD3.out, (Kept.of_below HB.out _).then_ HK.out (fun _ h => .inl h), fun k hk => foot_turned (HV.out.imp id (fun ⟨b, h1, h2⟩ => ⟨b, h1, Nat.le_trans HB.out.size h2⟩)) k hk⟩
section
variable {w0 w : World} {d : DSt} (h : St w0 w d)
include h
theorem stRename (s t : ByteArray) {g : Nat} (hb : badName t = false) (hn : (findR d s).1 = some g) (hlen : d.chg.length ≤ 1000000000) : Calls Try.prog 19 #[.pointer (some ⟨d.gd, 0, none⟩), .string s, .string t] w fun e w' => e = .returned (.int .i64 0) ∧ ∃ v1, St w0 w' (renD d s t g v1) :=
  (renameOk h.at_ s t hb hn hlen).mono fun e w' ⟨he, v1, hD, hK, hF⟩ => ⟨he, v1, h.step hD hK hF⟩
theorem stRenameNo (s t : ByteArray) (hn : badName t = true ∨ (findR d s).1 = none) : Calls Try.prog 19 #[.pointer (some ⟨d.gd, 0, none⟩), .string s, .string t] w fun e w' => e = .returned (.int .i64 (renE d s t)) ∧ St w0 w' d :=
  (renameNo h.at_ s t hn).mono fun e w' ⟨he, hB⟩ => ⟨he, h.more hB⟩
theorem stRemove (s : ByteArray) {g : Nat} (hn : (findR d s).1 = some g) (hlen : d.chg.length ≤ 1000000000) : Calls Try.prog 21 #[.pointer (some ⟨d.gd, 0, none⟩), .string s] w fun e w' => e = .returned (.int .i64 0) ∧ ∃ v1, St w0 w' (remD d s v1) :=
  (removeOk h.at_ s hn hlen).mono fun e w' ⟨he, v1, hD, hK, hF⟩ => ⟨he, v1, h.step hD hK hF⟩
theorem stRemoveNo (s : ByteArray) (hn : (findR d s).1 = none) : Calls Try.prog 21 #[.pointer (some ⟨d.gd, 0, none⟩), .string s] w fun e w' => e = .returned (.int .i64 (findR d s).2) ∧ St w0 w' d :=
  (removeNo h.at_ s hn).mono fun e w' ⟨he, hB⟩ => ⟨he, h.more hB⟩
theorem stSyncNo (s : ByteArray) (hn : (findR d s).1 = none) : Calls Try.prog 16 #[.pointer (some ⟨d.gd, 0, none⟩), .string s] w fun e w' => e = .returned (.int .i64 (findR d s).2) ∧ St w0 w' d :=
  (syncNo h.at_ s hn).mono fun e w' ⟨he, hB⟩ => ⟨he, h.more hB⟩
theorem stReadNo (s : ByteArray) (hn : (findR d s).1 = none) : Calls Try.prog 14 #[.pointer (some ⟨d.gd, 0, none⟩), .string s] w fun e w' => e = .returned (.tuple #[.slice none 0 0, .int .i64 (findR d s).2]) ∧ St w0 w' d :=
  (readNo h.at_ s hn).mono fun e w' ⟨he, hB⟩ => ⟨he, h.more hB⟩
theorem stRead (s : ByteArray) {f : FS} (hf : f ∈ d.fs) (hn : (findR d s).1 = some f.g) (hl : f.bs.length < 140737488355328) : Calls Try.prog 14 #[.pointer (some ⟨d.gd, 0, none⟩), .string s] w fun e w' => ∃ v : Value, e = .returned (.tuple #[v, .int .i64 0]) ∧ Kd.R (Kd.int .u8) 5 w' w.heap.size (fun _ => True) v f.bs ∧ St w0 w' d :=
  (readOk h.at_ s hf hn hl).mono fun e w' ⟨v, he, hR, hB⟩ => ⟨v, he, hR, h.more hB⟩
end
end Go.Proofs.Ytoninmgglcepmaa.Dk
