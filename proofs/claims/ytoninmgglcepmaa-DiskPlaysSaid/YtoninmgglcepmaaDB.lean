/- A file's other name, a name without its file, a byte turned: the walks of Rename, Remove, Turn. -/
import Derived.Test.YtoninmgglcepmaaD10
import Derived.Test.YtoninmgglcepmaaShelf
import Derived.Test.YtoninmgglcepmaaWFootNe
namespace Go.Proofs.Ytoninmgglcepmaa.Dk
open RegD Go.RowKit Go.ChangeMaps Go.Proofs.YtoninmgglcepmaaW.PrintWords Go.Proofs.YtoninmgglcepmaaW.PrintLast Go.Proofs.YtoninmgglcepmaaW.PrintMore Mp
attribute [local go_sem] max2_int min2_int max_two min_two max_three min_three max_four min_four
set_option linter.unusedVariables false
set_option linter.unusedSimpArgs false
theorem find_get {d : DSt} {s : ByteArray} {g : Nat} (h : (findR d s).1 = some g) : badName s = false ∧ getM d.dir s = some g := by
  unfold findR at h
  split at h
  · cases h
  · next hb =>
    split at h
    · cases h
    · next g' hg =>
      simp only [Option.some.injEq] at h
      subst h
      exact ⟨by simpa using hb, hg⟩
def renE (d : DSt) (s t : ByteArray) : Int := if badName t = true then 20 else (findR d s).2
def renD (d : DSt) (s t : ByteArray) (g : Nat) (v1 : Value) : DSt := { d with dir := putM (delM d.dir s) t g, vch := v1, chg := d.chg ++ [⟨1, s, t, none⟩] }
def remD (d : DSt) (s : ByteArray) (v1 : Value) : DSt := { d with dir := delM d.dir s, vch := v1, chg := d.chg ++ [⟨2, s, ByteArray.empty, none⟩] }
theorem foot_turned {w : World} {d : DSt} {l2 : List (ByteArray × Nat)} {v1 : Value} {chg : List Chg} (hv : v1.ownBlock = d.vch.ownBlock ∨ ∃ b, v1.ownBlock = some b ∧ w.heap.size ≤ b) (k : Nat) (hk : Foot { d with dir := l2, vch := v1, chg := chg } k) : Foot d k ∨ w.heap.size ≤ k := by
  rcases hk with hk | hk | hk | hk | hk
  · exact .inl (.inl hk)
  · exact .inl (.inr (.inl hk))
  · exact .inl (.inr (.inr (.inl hk)))
  · rcases hv with hv | ⟨b, hv, hb⟩
    · exact .inl (.inr (.inr (.inr (.inl (hv ▸ hk)))))
    · simp only at hk
      rw [hv] at hk
      injection hk with hk
      exact .inr (hk ▸ hb)
  · exact .inl (.inr (.inr (.inr (.inr hk))))
theorem turnL {w : World} {d : DSt} (h : DiskAt w d) (k : Int) (s t : ByteArray) {l2 : List (ByteArray × Nat)} (h2 : doM d.dir ⟨k, s, t, none⟩ = some l2) (hlen : d.chg.length ≤ 1000000000) :
    Calls Try.prog 37 #[.pointer (some ⟨d.gd, 0, none⟩), .agg #[.int .i64 k, .string s, .string t, .pointer none]] w fun e w' => ∃ v1, e = .returned (.tuple #[]) ∧ DiskAt w' { d with dir := l2, vch := v1, chg := d.chg ++ [⟨k, s, t, none⟩] } ∧ (v1.ownBlock = d.vch.ownBlock ∨ ∃ b, v1.ownBlock = some b ∧ w.heap.size ≤ b) ∧ Kept w w' (Foot d) :=
  turnC h ⟨k, s, t, none⟩ h2 (by omega)
set_option maxHeartbeats 8000000 in
set_option maxRecDepth 100000 in
theorem renameNo {w : World} {d : DSt} (h : DiskAt w d) (s t : ByteArray) (hn : badName t = true ∨ (findR d s).1 = none) : Calls Try.prog 19 #[.pointer (some ⟨d.gd, 0, none⟩), .string s, .string t] w fun e w' => e = .returned (.int .i64 (renE d s t)) ∧ Below w.heap.size w w' := by
  have hB := Aside0.mk (below_alloc (Below.refl w.heap.size w) (.cells #[.string t] 9))
  by_cases hb : badName t = true
  · have hN := Lib.hid (names1 t w (t := false) (by rw [hb]; rfl))
    unfold renE
    rw [if_pos hb]
    clear h hn hb
    go_enter Try.func19, Try.ntmps19
    go_wp2_with (go_at_call 36; refine hN.out.mono ?_; rintro e w1 ⟨rfl, rfl⟩)
    go_ret
    exact ⟨rfl, hB.out⟩
  · have hb' : badName t = false := by simpa using hb
    have hf := findC (h.below hB.out) s
    have hne := find_none (hn.resolve_left hb)
    rw [hn.resolve_left hb] at hf
    unfold renE
    rw [if_neg hb]
    have hN := Lib.hid (names1 t w (t := true) (by rw [hb']; rfl))
    generalize (findR d s).2 = q at hf hne
    have c1 : (q == 0) = false := beq_eq_false_iff_ne.mpr hne
    unfold pv at hf
    dsimp only [Option.map] at hf
    have HF := Lib.hid hf
    clear h hn hb hb' hne hf
    go_enter Try.func19, Try.ntmps19
    go_wp2_with (first
      | (go_at_call 36; refine hN.out.mono ?_; rintro e w1 ⟨rfl, rfl⟩)
      | (go_at_call 38; refine HF.out.mono ?_; rintro e w2 ⟨rfl, hb⟩; have HB := Aside0.mk (below_step hB.out hb); clear hb))
    go_ret
    exact ⟨rfl, HB.out⟩
set_option maxHeartbeats 8000000 in
set_option maxRecDepth 100000 in
theorem renameOk {w : World} {d : DSt} (h : DiskAt w d) (s t : ByteArray) {g : Nat} (hb : badName t = false) (hn : (findR d s).1 = some g) (hlen : d.chg.length ≤ 1000000000) :
    Calls Try.prog 19 #[.pointer (some ⟨d.gd, 0, none⟩), .string s, .string t] w fun e w' => e = .returned (.int .i64 0) ∧ ∃ v1, DiskAt w' (renD d s t g v1) ∧ Kept w w' (Foot d) ∧ (∀ k, Foot (renD d s t g v1) k → Foot d k ∨ w.heap.size ≤ k) := by
  have hB := Aside0.mk (below_alloc (Below.refl w.heap.size w) (.cells #[.string t] 9))
  have HD1 := Aside0.mk (h.below hB.out)
  have hf := findC HD1.out s
  rw [hn, find_some hn] at hf
  have hN := Lib.hid (names1 t w (t := true) (by rw [hb]; rfl))
  have HDO := Aside0.mk (show doM d.dir ⟨1, s, t, none⟩ = some (putM (delM d.dir s) t g) from by
    unfold doM
    rw [if_neg (show ¬ (1 : Int) = 0 by decide), if_pos rfl, (find_get hn).2]
    rfl)
  unfold pv at hf
  dsimp only [Option.map] at hf
  have HF := Lib.hid hf
  have HL := Aside0.mk hlen
  clear h hn hb hf hlen
  go_enter Try.func19, Try.ntmps19
  go_wp2_with (first
    | (go_at_call 36; refine hN.out.mono ?_; rintro e w1 ⟨rfl, rfl⟩)
    | (go_at_call 38; refine HF.out.mono ?_; rintro e w2 ⟨rfl, hb⟩; have HD2 := Aside0.mk (HD1.out.below hb); have HB := Aside0.mk (below_step hB.out hb); clear hb)
    | (go_at_call 37; (with_reducible refine (turnL HD2.out 1 s t HDO.out HL.out).mono ?_); rintro e w3 ⟨v1, rfl, hD, hv, hK⟩; have HD3 := Aside0.mk hD; have HV := Aside0.mk hv; have HK := Aside0.mk hK; clear hD hv hK))
  go_ret
  exact ⟨rfl, v1, HD3.out, (Kept.of_below HB.out _).then_ HK.out (fun _ h => .inl h), fun k hk => foot_turned (HV.out.imp id (fun ⟨b, h1, h2⟩ => ⟨b, h1, Nat.le_trans HB.out.size h2⟩)) k hk⟩
set_option maxHeartbeats 8000000 in
set_option maxRecDepth 100000 in
theorem removeNo {w : World} {d : DSt} (h : DiskAt w d) (s : ByteArray) (hn : (findR d s).1 = none) : Calls Try.prog 21 #[.pointer (some ⟨d.gd, 0, none⟩), .string s] w fun e w' => e = .returned (.int .i64 (findR d s).2) ∧ Below w.heap.size w w' := by
  have hf := findC h s
  have hne := find_none hn
  rw [hn] at hf
  generalize (findR d s).2 = q at hf hne
  have c1 : (q == 0) = false := beq_eq_false_iff_ne.mpr hne
  unfold pv at hf
  dsimp only [Option.map] at hf
  clear h hn hne
  go_enter Try.func21, Try.ntmps21
  go_wp2_with (go_at_call 38; refine hf.mono ?_; rintro e w1 ⟨rfl, hb⟩; have HB := Aside0.mk hb; clear hb)
  go_ret
  exact ⟨rfl, HB.out⟩
set_option maxHeartbeats 8000000 in
set_option maxRecDepth 100000 in
theorem removeOk {w : World} {d : DSt} (h : DiskAt w d) (s : ByteArray) {g : Nat} (hn : (findR d s).1 = some g) (hlen : d.chg.length ≤ 1000000000) :
    Calls Try.prog 21 #[.pointer (some ⟨d.gd, 0, none⟩), .string s] w fun e w' => e = .returned (.int .i64 0) ∧ ∃ v1, DiskAt w' (remD d s v1) ∧ Kept w w' (Foot d) ∧ (∀ k, Foot (remD d s v1) k → Foot d k ∨ w.heap.size ≤ k) := by
  have hf := findC h s
  rw [hn, find_some hn] at hf
  have HDO := Aside0.mk (show doM d.dir ⟨2, s, ByteArray.empty, none⟩ = some (delM d.dir s) from by
    unfold doM
    rw [if_neg (show ¬ (2 : Int) = 0 by decide), if_neg (show ¬ (2 : Int) = 1 by decide), if_pos rfl])
  unfold pv at hf
  dsimp only [Option.map] at hf
  have HD := Aside0.mk h
  have HF := Lib.hid hf
  have HL := Aside0.mk hlen
  clear h hn hf hlen
  go_enter Try.func21, Try.ntmps21
  go_wp2_with (first
    | (go_at_call 38; refine HF.out.mono ?_; rintro e w2 ⟨rfl, hb⟩; have HD2 := Aside0.mk (HD.out.below hb); have HB := Aside0.mk hb; clear hb)
    | (go_at_call 37; refine (turnL HD2.out 2 s ByteArray.empty HDO.out HL.out).mono ?_; rintro e w3 ⟨v1, rfl, hD, hv, hK⟩; have HD3 := Aside0.mk hD; have HV := Aside0.mk hv; have HK := Aside0.mk hK; clear hD hv hK))
  go_ret
  exact ⟨rfl, v1, HD3.out, (Kept.of_below HB.out _).then_ HK.out (fun _ h => .inl h), fun k hk => foot_turned (HV.out.imp id (fun ⟨b, h1, h2⟩ => ⟨b, h1, Nat.le_trans HB.out.size h2⟩)) k hk⟩
section
variable {w0 w : World} {d : DSt} (h : St w0 w d)
include h
theorem stRename (s t : ByteArray) {g : Nat} (hb : badName t = false) (hn : (findR d s).1 = some g) (hlen : d.chg.length ≤ 1000000000) : Calls Try.prog 19 #[.pointer (some ⟨d.gd, 0, none⟩), .string s, .string t] w fun e w' => e = .returned (.int .i64 0) ∧ ∃ v1, St w0 w' (renD d s t g v1) :=
  (renameOk h.at_ s t hb hn hlen).mono fun e w' ⟨he, v1, hD, hK, hF⟩ => ⟨he, v1, h.step hD hK hF⟩
theorem stRenameNo (s t : ByteArray) (hn : badName t = true ∨ (findR d s).1 = none) : Calls Try.prog 19 #[.pointer (some ⟨d.gd, 0, none⟩), .string s, .string t] w fun e w' => e = .returned (.int .i64 (renE d s t)) ∧ St w0 w' d :=
  (renameNo h.at_ s t hn).mono fun e w' ⟨he, hB⟩ => ⟨he, h.more hB⟩
theorem stRemove (s : ByteArray) {g : Nat} (hn : (findR d s).1 = some g) (hlen : d.chg.length ≤ 1000000000) : Calls Try.prog 21 #[.pointer (some ⟨d.gd, 0, none⟩), .string s] w fun e w' => e = .returned (.int .i64 0) ∧ ∃ v1, St w0 w' (remD d s v1) :=
  (removeOk h.at_ s hn hlen).mono fun e w' ⟨he, v1, hD, hK, hF⟩ => ⟨he, v1, h.step hD hK hF⟩
theorem stRemoveNo (s : ByteArray) (hn : (findR d s).1 = none) : Calls Try.prog 21 #[.pointer (some ⟨d.gd, 0, none⟩), .string s] w fun e w' => e = .returned (.int .i64 (findR d s).2) ∧ St w0 w' d :=
  (removeNo h.at_ s hn).mono fun e w' ⟨he, hB⟩ => ⟨he, h.more hB⟩
theorem stSyncNo (s : ByteArray) (hn : (findR d s).1 = none) : Calls Try.prog 16 #[.pointer (some ⟨d.gd, 0, none⟩), .string s] w fun e w' => e = .returned (.int .i64 (findR d s).2) ∧ St w0 w' d :=
  (syncNo h.at_ s hn).mono fun e w' ⟨he, hB⟩ => ⟨he, h.more hB⟩
theorem stReadNo (s : ByteArray) (hn : (findR d s).1 = none) : Calls Try.prog 14 #[.pointer (some ⟨d.gd, 0, none⟩), .string s] w fun e w' => e = .returned (.tuple #[.slice none 0 0, .int .i64 (findR d s).2]) ∧ St w0 w' d :=
  (readNo h.at_ s hn).mono fun e w' ⟨he, hB⟩ => ⟨he, h.more hB⟩
theorem stRead (s : ByteArray) {f : FS} (hf : f ∈ d.fs) (hn : (findR d s).1 = some f.g) (hl : f.bs.length < 140737488355328) : Calls Try.prog 14 #[.pointer (some ⟨d.gd, 0, none⟩), .string s] w fun e w' => ∃ v : Value, e = .returned (.tuple #[v, .int .i64 0]) ∧ Kd.R (Kd.int .u8) 5 w' w.heap.size (fun _ => True) v f.bs ∧ St w0 w' d :=
  (readOk h.at_ s hf hn hl).mono fun e w' ⟨v, he, hR, hB⟩ => ⟨v, he, hR, h.more hB⟩
end
end Go.Proofs.Ytoninmgglcepmaa.Dk

namespace Go.Proofs.Ytoninmgglcepmaa.Dk
open RegD Go.RowKit Go.ChangeMaps Go.Proofs.YtoninmgglcepmaaW.PrintWords Go.Proofs.YtoninmgglcepmaaW.PrintLast Go.Proofs.YtoninmgglcepmaaW.PrintMore Mp
open Go.Maps Go.Sort Go.MapKept
set_option linter.unusedVariables false
set_option linter.unusedSimpArgs false
/-- A text of bytes. -/
def strB (b : List UInt8) : ByteArray := ⟨b.toArray⟩
theorem strB_data (s : ByteArray) : strB s.data.toList = s := rfl
/-- The texts in order. -/
def sortL (l : List ByteArray) : List ByteArray := ((l.map (·.data.toList)).mergeSort fun x y => decide (x ≤ y)).map strB
/-- slices.Sort's two contracts, at the fence that asks nothing. -/
theorem sortsA (m : Nat) : AnyZ.SortsIn Try.prog Try.sortedA_ren Fence.wide m :=
  ⟨fun blk off cap ss W hH hblk hsz => callsIn_wide.2 (AnyM.slices_Sort_string Try.sortA blk off cap ss W hH hblk hsz),
   fun p cap W => callsIn_wide.2 (AnyM.slices_Sort_string_none Try.sortA p cap W)⟩
/-- How a pointer to a file reads: as nothing. -/
def anyR : Value → Option (DataW Unit × List MemPlace) := fun _ => some (.nil, [])
theorem fit_dir {es : Array MapEntry} {clock : Nat} {l : List (ByteArray × Nat)} (hkv : kv es.toList = kl (ptrs l)) (hn : (es.toList.map (·.born)).Nodup) (hlt : ∀ e ∈ es.toList, e.born < clock) (hk : (l.map (·.1)).Nodup) (hs : ∀ p ∈ l, p.1.size ≤ maxLen) (hl : l.length ≤ 1000000) :
    Go.WideElems.Fit Try.prog 9 anyR es clock ∧ es.size = l.length ∧ es.toList.map (fun x => strOf (Go.WideElems.rg Try.prog 9 anyR x).1) = l.map (·.1.data.toList) := by
  have hkey : es.toList.map (·.key) = l.map fun p => Value.string p.1 := by
    have := congrArg (List.map (·.1)) hkv
    simpa [kv, kl, ptrs, List.map_map, Function.comp_def] using this
  have hsz : es.size = l.length := by
    have := congrArg List.length hkey
    simpa using this
  have hrd : ∀ x ∈ es.toList, ∃ s : ByteArray, s.size ≤ maxLen ∧ x.key = .string s ∧ Go.WideElems.rd Try.prog 9 anyR x = some (.string s.data.toList, .nil) := fun x hx => by
    have h1 : x.key ∈ l.map fun p => Value.string p.1 := hkey ▸ List.mem_map.2 ⟨x, hx, rfl⟩
    obtain ⟨p, hp, he⟩ := List.mem_map.1 h1
    refine ⟨p.1, hs p hp, he.symm, ?_⟩
    unfold Go.WideElems.rd
    rw [← he]
    simp [keyOf, Try.underlying9, mapKey, hs p hp, anyR]
  refine ⟨⟨by rw [hsz]; have : maxLen = 9223372036854775807 := rfl; omega, ⟨hlt, hn, ?_⟩, fun x hx => by obtain ⟨s, _, _, h⟩ := hrd x hx; exact ⟨_, h⟩⟩, hsz, ?_⟩
  · rw [hkey]
    rw [List.nodup_iff_pairwise_ne, List.pairwise_map] at hk ⊢
    exact hk.imp fun h he => h (by injection he)
  · have : es.toList.map (fun x => strOf (Go.WideElems.rg Try.prog 9 anyR x).1) = (es.toList.map (·.key)).map fun v => match v with | .string s => s.data.toList | _ => [] := by
      rw [List.map_map]
      refine List.map_congr_left fun x hx => ?_
      obtain ⟨s, _, h1, h2⟩ := hrd x hx
      simp only [Go.WideElems.rg, h2, Option.getD_some, strOf, Function.comp_apply, h1]
    rw [this, hkey, List.map_map]
    rfl
theorem listIn {w : World} {b : Nat} {l : List (ByteArray × Nat)} (h : MapB w b (ptrs l)) (hk : (l.map (·.1)).Nodup) (hs : ∀ p ∈ l, p.1.size ≤ maxLen) (hl : l.length ≤ 1000000) :
    ∃ D0 : DataW Unit, w.ownsMap Try.prog 9 anyR b l.length D0 ∧ Maps.size D0 = l.length ∧ (strKeys D0).Perm (l.map (·.1.data.toList)) := by
  obtain ⟨es, clock, hb, hkv, hn, hlt⟩ := h
  obtain ⟨hF, hsz, hkeys⟩ := fit_dir hkv hn hlt hk hs hl
  have hp := Go.WideShapes.sorted_perm (es.toList.map (Go.WideElems.rg Try.prog 9 anyR))
  refine ⟨.map ((es.toList.map (Go.WideElems.rg Try.prog 9 anyR)).foldr DataW.insert []), ⟨es, clock, hb, hF, by omega, rfl⟩, ?_, ?_⟩
  · show (List.foldr DataW.insert [] _).length = _
    rw [hp.length_eq, List.length_map, Array.length_toList, hsz]
  · refine (hp.map fun p => strOf p.1).trans (.of_eq ?_)
    rw [List.map_map, ← hkeys]
    refine List.map_congr_left fun x hx => ?_
    simp only [Function.comp_apply]
theorem listB {w : World} {Bm b : Nat} {l : List (ByteArray × Nat)} (hBm : Bm < w.heap.size) (hm : w.cell? ⟨Bm, 0, none⟩ = some (.map (some b))) (h : MapB w b (ptrs l)) (hk : (l.map (·.1)).Nodup) (hs : ∀ p ∈ l, p.1.size ≤ maxLen) (hl : l.length ≤ 1000000) :
    CallsIn Fence.wide 5 Try.prog 42 #[.func (.func 57) #[] #[.pointer (some ⟨Bm, 0, none⟩)]] w fun e w' => ∃ v : Value, e = .returned v ∧
      Kd.R Kd.string 9 w' w.heap.size (fun _ => True) v (sortL (l.map (·.1))) ∧ (v = .slice none 0 0 ↔ l = []) ∧ Below w.heap.size w w' := by
  obtain ⟨D0, hown, hsz, hperm⟩ := listIn h hk hs hl
  have hseq : SeqGives Fence.wide 2 Try.prog 57 #[.pointer (some ⟨Bm, 0, none⟩)] encStr (fun ss => ss.Perm (strKeys D0)) (Maps.size D0) w :=
    AnyZ.keys_gives (ρ := Try.keysA_ren) { Try.keysA with } Fence.wide _ trivial rfl (by omega) Bm b l.length D0 w hBm hm hown
  have cS := AnyZ.sorted_in Try.sortedA Fence.wide 5 trivial trivial trivial trivial rfl (by omega) (sortsA _) (enters_of Try.func56 (by kernel_rfl) rfl) 57 #[.pointer (some ⟨Bm, 0, none⟩)] trivial (enters_of Try.func57 (by kernel_rfl) rfl) _ _ (show Maps.size D0 ≤ maxLen by rw [hsz]; have : maxLen = 9223372036854775807 := rfl; omega) (by rw [hsz]; omega) w hseq
  change CallsIn _ _ Try.prog 42 _ _ _ at cS
  refine cS.mono ?_
  rintro e w' ⟨v, ss, rfl, hS, hrow, hnil, hb⟩
  have hp2 := hS.trans hperm
  have hms : (ss.mergeSort fun x y => decide (x ≤ y)) = (l.map (·.1.data.toList)).mergeSort fun x y => decide (x ≤ y) := mergeSort_of_perm hp2
  have hlen : ss.length = l.length := by rw [hp2.length_eq, List.length_map]
  refine ⟨v, rfl, Kd.R_of_own ?_ (fun _ _ => trivial), hnil.trans ?_, hb⟩
  · change w'.ownsRow w.heap.size 9 1 v ss.length _ at hrow
    have e1 : (sortL (l.map (·.1))).length = ss.length := by
      unfold sortL
      rw [List.length_map, List.length_mergeSort, List.length_map, List.length_map, hlen]
    rw [e1]
    refine (show encs Value.string (sortL (l.map (·.1))) = _ from ?_) ▸ hrow
    unfold encs sortL
    rw [hms, List.map_map, List.map_map]
    rfl
  · rw [← List.length_eq_zero_iff, hlen, List.length_eq_zero_iff]
set_option maxHeartbeats 8000000 in
set_option maxRecDepth 100000 in
theorem listC {w : World} {d : DSt} (h : DiskAt w d) (hk : (d.dir.map (·.1)).Nodup) (hs : ∀ p ∈ d.dir, p.1.size ≤ maxLen) (hl : d.dir.length ≤ 1000000) :
    Calls Try.prog 20 #[.pointer (some ⟨d.gd, 0, none⟩)] w fun e w' => ∃ v : Value, e = .returned v ∧
      Kd.R Kd.string 9 w' w.heap.size (fun _ => True) v (sortL (d.dir.map (·.1))) ∧ (v = .slice none 0 0 ↔ d.dir = []) ∧ Below w.heap.size w w' := by
  refine (callsIn_wide (n := 6)).1 ?_
  have hc0 : w.cell? ⟨d.gd, 0, none⟩ = some (.map (some d.bd)) := blk_cell h.hd 0
  have hb := below_alloc (Below.refl w.heap.size w) (.cells #[.map (some d.bd)] 56)
  have HB := Aside0.mk hb
  have cS := listB (w := w.alloc (.cells #[.map (some d.bd)] 56)) (Bm := w.heap.size) (by rw [alloc_size]; omega) (blk_cell (blk_new w _) 0) (h.below hb).hm hk hs hl
  have cK : ∀ mb W, CallsIn Fence.wide 5 Try.prog 43 #[.map mb] W fun e w' => e = .returned (.func (.func 57) #[] #[.pointer (some ⟨W.heap.size, 0, none⟩)]) ∧ w' = W.alloc (.cells #[.map mb] 56) := fun mb W => AnyZ.keys_in Try.keysA Fence.wide 5 trivial rfl mb W
  have hfK : Fence.wide.fn 43 := trivial
  have hfS : Fence.wide.fn 42 := trivial
  clear h hk hs hl hb
  refine callsIn_of_wp Try.func20 rfl trivial ?_ rfl
  simp only [Try.ntmps20, List.size_toArray, List.length_cons, List.length_nil, Nat.reduceAdd, Nat.reduceSub, Array.replicate_succ, Array.replicate_zero, List.push_toArray, List.append_toArray, List.nil_append, List.cons_append]
  gi_wp2_with (first
    | (gi_at_call 43; refine (cK _ _).mono ?_; rintro e w' ⟨rfl, rfl⟩)
    | (gi_at_call 42; refine cS.mono ?_; rintro e w' ⟨v, rfl, hrow, hnil, hb⟩))
  go_ret
  exact ⟨v, rfl, Kd.R_lower hrow HB.out.size, hnil, below_step HB.out hb⟩
theorem stList {w0 w : World} {d : DSt} (h : St w0 w d) (hk : (d.dir.map (·.1)).Nodup) (hs : ∀ p ∈ d.dir, p.1.size ≤ maxLen) (hl : d.dir.length ≤ 1000000) :
    Calls Try.prog 20 #[.pointer (some ⟨d.gd, 0, none⟩)] w fun e w' => ∃ v : Value, e = .returned v ∧ Kd.R Kd.string 9 w' w.heap.size (fun _ => True) v (sortL (d.dir.map (·.1))) ∧ (v = .slice none 0 0 ↔ d.dir = []) ∧ St w0 w' d :=
  (listC h.at_ hk hs hl).mono fun e w' ⟨v, he, hR, hn, hB⟩ => ⟨v, he, hR, hn, h.more hB⟩
end Go.Proofs.Ytoninmgglcepmaa.Dk
