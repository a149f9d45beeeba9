/- Names of files; find, New, Quota: the walks. -/
import Derived.Test.YtoninmgglcepmaaD2
import Derived.StillTailTactics
namespace Go.Proofs.Ytoninmgglcepmaa.Dk
open Reg Go.RowKit Go.ChangeMaps Go.Proofs.YtoninmgglcepmaaW.PrintWords Go.Proofs.YtoninmgglcepmaaW.PrintLast Go.Proofs.YtoninmgglcepmaaW.PrintMore Mp
attribute [local go_sem] max2_int min2_int max_two min_two max_three min_three max_four min_four
set_option linter.unusedVariables false
set_option linter.unusedSimpArgs false
def badName (s : ByteArray) : Bool := s.toList.isEmpty || decide (30 < (s.size : Int))
theorem bad1 (s : ByteArray) (w : World) : Calls Try.prog 53 #[.string s] w fun e w' => e = .returned (.bool (badName s)) ∧ w = w' := by
  have hb : ∀ t, badName s = t → Calls Try.prog 53 #[.string s] w fun e w' => e = .returned (.bool t) ∧ w = w' := by
    intro t ht
    unfold badName at ht
    by_cases h : s.toList = []
    · have h1 : s.toList.isEmpty = true := by rw [h]; rfl
      rw [h1, Bool.true_or] at ht
      subst ht
      go_enter Try.func53, Try.ntmps53
      go_wp2
      go_ret
      exact ⟨rfl, rfl⟩
    · have h1 : s.toList.isEmpty = false := by
        cases hs : s.toList with
        | nil => exact absurd hs h
        | cons a l => rfl
      rw [h1, Bool.false_or] at ht
      clear h
      go_enter Try.func53, Try.ntmps53
      go_wp2
      go_ret
      exact ⟨rfl, rfl⟩
  exact hb _ rfl
set_option maxHeartbeats 8000000 in
set_option maxRecDepth 100000 in
theorem index1 (A : Option Addr) (c : Nat) (l : List ByteArray) (w : World) (hr : Kd.C Kd.string w A l.length l) (hl : l.length ≤ 9223372036854775807) :
    Calls Try.prog 60 #[.slice A l.length c, .func (.func 53) #[] #[]] w fun e w' => ∃ r : Int, e = .returned (.int .i64 r) ∧ decide (0 ≤ r) = l.any badName ∧ w = w' := by
  have HR := Aside0.mk hr
  have HL := Aside0.mk hl
  clear hr hl
  go_enter Try.func60, Try.ntmps60
  go_wp2
  go_loopg [8] l.length (fun kq v8 w' => ∃ x : Nat, v8 = .int .i64 (x : Int) ∧ Aside0 (x ≤ l.length ∧ l.length - x ≤ kq) ∧ Aside0 (∀ s ∈ l.take x, badName s = false) ∧ w = w')
  case atStart => exact ⟨0, rfl, ⟨by omega, by omega⟩, ⟨by simp⟩, rfl⟩
  case round =>
    obtain ⟨x, rfl, HX, HA, rfl⟩ := hrel
    by_cases h : x < l.length
    · have hlt : decide ((x : Int) < (l.length : Int)) = true := decide_eq_true (by omega)
      have p1 : 0 ≤ (x : Int) := by omega
      have q1 : (x : Int) < (l.length : Int) := by omega
      obtain ⟨ad, e1, hx⟩ := Kd.at_string HR.out (x : Int) p1 q1
      cases e1
      have hg : rdOf ByteArray.empty l (x : Int) = l[x] := by simp [rdOf, List.getD_eq_getElem?_getD, List.getElem?_eq_getElem h]
      rw [hg, Int.toNat_natCast] at hx
      have hL := HL.out
      by_cases hs : badName l[x] = true
      · have hmem : l.any badName = true := List.any_eq_true.2 ⟨l[x], List.getElem_mem _, hs⟩
        have HM := Aside0.mk hmem
        generalize l[x] = s at *
        clear hg hmem hL
        have HBad := bad1 s
        rw [hs] at HBad
        go_wp2_with (go_at_call 53; refine (HBad _).mono ?_; rintro e w1 ⟨rfl, rfl⟩)
        go_ret
        refine ⟨_, rfl, ?_, rfl⟩
        rw [HM.out]
        exact decide_eq_true p1
      · have hs' : badName l[x] = false := by simpa using hs
        have hn : ∀ s ∈ l.take (x + 1), badName s = false := by
          intro s hs''
          rw [List.take_add_one, List.getElem?_eq_getElem h] at hs''
          rcases List.mem_append.1 hs'' with h1 | h1
          · exact HA.out s h1
          · rw [List.mem_singleton.1 h1]
            exact hs'
        have HN := Aside0.mk hn
        generalize l[x] = s at *
        clear hg hn hs
        have HBad := bad1 s
        rw [hs'] at HBad
        go_wp2_with (go_at_call 53; refine (HBad _).mono ?_; rintro e w1 ⟨rfl, rfl⟩)
        go_roundg (l.length - (x + 1))
        case measure => have := HX.out; omega
        case rel => exact ⟨x + 1, by first | rfl | (simp; done) | (simp [*]; done) | (congr 1; omega), ⟨by omega, by omega⟩, HN, rfl⟩
    · have hlt : decide ((x : Int) < (l.length : Int)) = false := decide_eq_false (by omega)
      go_wp2
      go_ret
      refine ⟨_, rfl, ?_, rfl⟩
      have h1 := HA.out
      rw [List.take_of_length_le (by omega)] at h1
      rw [show l.any badName = false from by rw [List.any_eq_false]; intro s hs; rw [h1 s hs]; decide]
      decide
theorem contains1 (A : Option Addr) (c : Nat) (l : List ByteArray) (w : World) (hr : Kd.C Kd.string w A l.length l) (hl : l.length ≤ 9223372036854775807) :
    Calls Try.prog 52 #[.slice A l.length c, .func (.func 53) #[] #[]] w fun e w' => e = .returned (.bool (l.any badName)) ∧ w = w' := by
  have HR := Aside0.mk hr
  have HL := Aside0.mk hl
  clear hr hl
  go_enter Try.func52, Try.ntmps52
  go_wp2_with (go_at_call 60; refine (index1 _ _ l _ HR.out HL.out).mono ?_; rintro e w1 ⟨r, rfl, hb, rfl⟩)
  go_ret
  exact ⟨rfl, rfl⟩
theorem names1 (s : ByteArray) (w : World) {t : Bool} (ht : badName s = !t) : Calls Try.prog 36 #[.slice (some ⟨w.heap.size, 0, none⟩) 1 1] (w.alloc (.cells #[.string s] 9)) fun e w' => e = .returned (.bool t) ∧ w.alloc (.cells #[.string s] 9) = w' := by
  have hc : Kd.C Kd.string (w.alloc (.cells #[.string s] 9)) (some ⟨w.heap.size, 0, none⟩) [s].length [s] := by
    refine ⟨rfl, by simp, fun _ => ⟨_, rfl, fun i p hp => ⟨[.string p], rfl, rfl, fun j u hu => ?_⟩⟩⟩
    match i, hp with
    | 0, hp =>
      obtain rfl : s = p := by simpa using hp
      match j, hu with
      | 0, hu =>
        obtain rfl : Value.string s = u := by simpa using hu
        exact (blk_cell (blk_new w (.cells #[.string s] 9)) 0)
  have hb : [s].any badName = !t := by simp [ht]
  have h52 := contains1 (some ⟨w.heap.size, 0, none⟩) 1 [s] (w.alloc (.cells #[.string s] 9)) hc (by simp)
  rw [hb] at h52
  have h52' : Calls Try.prog 52 #[.slice (some ⟨w.heap.size, 0, none⟩) 1 1, .func (.func 53) #[] #[]] (w.alloc (.cells #[.string s] 9)) fun e w' => e = .returned (.bool (!t)) ∧ w.alloc (.cells #[.string s] 9) = w' := h52
  clear hc hb h52
  generalize w.alloc (.cells #[.string s] 9) = w1 at *
  generalize w.heap.size = b at *
  cases t <;>
  · go_enter Try.func36, Try.ntmps36
    go_wp2_with (go_at_call 52; refine h52'.mono ?_; rintro e w2 ⟨rfl, rfl⟩)
    go_ret
    exact ⟨rfl, rfl⟩
theorem alloc_size (w : World) (o : Obj) : (w.alloc o).heap.size = w.heap.size + 1 := by
  show (w.heap.push o).size = _
  simp
theorem mapNew (w : World) : MapB (w.alloc (.map #[] 0)) w.heap.size (ptrs []) := ⟨#[], 0, blk_new w _, rfl, by simp, by simp⟩
def newW (w : World) : World := ((w.alloc (.map #[] 0)).alloc (.map #[] 0)).alloc (.cells #[.map (some w.heap.size), .map (some (w.heap.size + 1)), .slice none 0 0, .int .i64 (-1)] 59)
def newD (w : World) : DSt := ⟨w.heap.size + 2, w.heap.size, w.heap.size + 1, .slice none 0 0, -1, [], [], [], []⟩
theorem new_below (w : World) : Below w.heap.size w (newW w) := below_alloc (below_alloc (below_alloc (Below.refl _ _) _) _) _
theorem newAt (w : World) : DiskAt (newW w) (newD w) := by
  have h1 := mapNew w
  have h2 := mapNew (w.alloc (.map #[] 0))
  have s1 : (w.alloc (.map #[] 0)).heap.size = w.heap.size + 1 := alloc_size _ _
  have s2 : ((w.alloc (.map #[] 0)).alloc (.map #[] 0)).heap.size = w.heap.size + 2 := by rw [alloc_size, alloc_size]
  have b2 := below_alloc (Below.refl _ (w.alloc (.map #[] 0))) (.map #[] 0)
  have b3 := below_alloc (Below.refl _ ((w.alloc (.map #[] 0)).alloc (.map #[] 0))) (.cells #[.map (some w.heap.size), .map (some (w.heap.size + 1)), .slice none 0 0, .int .i64 (-1)] 59)
  have h3 := blk_new ((w.alloc (.map #[] 0)).alloc (.map #[] 0)) (.cells #[.map (some w.heap.size), .map (some (w.heap.size + 1)), .slice none 0 0, .int .i64 (-1)] 59)
  rw [s2] at h3
  rw [s1] at h2
  refine ⟨h3, ?_, ?_, ?_, Kd.R_nil _ _ _ _ _, by simp [newD], by simp [newD], by simp [newD]⟩
  · exact mb_same (mb_same h1 (b2.block _ (mb_lt h1))) (b3.block _ (Nat.lt_of_lt_of_le (mb_lt h1) b2.size))
  · exact mb_same h2 (b3.block _ (mb_lt h2))
  · show w.heap.size ≠ w.heap.size + 1
    omega
theorem newC (w : World) : Calls Try.prog 11 #[] w fun e w' => e = .returned (.pointer (some ⟨w.heap.size + 2, 0, none⟩)) ∧ w' = newW w := by
  have hmm := @run_makeMap Try.prog
  go_enter Try.func11, Try.ntmps11
  go_wp2
  go_ret
  exact ⟨rfl, rfl⟩
theorem getM_ptrs (l : List (ByteArray × Nat)) (s : ByteArray) : getM (ptrs l) s = (getM l s).map fun g => pv (some g) := by
  induction l with
  | nil => rfl
  | cons p l ih =>
    simp only [ptrs, List.map_cons, getM]
    split
    · rfl
    · exact ih
theorem look_dir {w : World} {b : Nat} {l : List (ByteArray × Nat)} (h : MapB w b (ptrs l)) (s : ByteArray) : (Instr.lookup 56 (.map (some b)) (.string s) false).run Try.prog w = .ok (pv (getM l s)) w := by
  have := run_look (P := Try.prog) h Try.underlying56 Try.underlying9 (z := .pointer none) (show (zeroValue 60).run Try.prog w = .ok (.pointer none) w from by kernel_rfl) s
  rw [this, getM_ptrs]
  cases getM l s <;> rfl
/-- What find comes to. -/
def findR (d : DSt) (s : ByteArray) : Option Nat × Int := if badName s = true then (none, 20) else match getM d.dir s with | none => (none, 25) | some g => (some g, 0)
theorem findC {w : World} {d : DSt} (h : DiskAt w d) (s : ByteArray) : Calls Try.prog 38 #[.pointer (some ⟨d.gd, 0, none⟩), .string s] w fun e w' => e = .returned (.tuple #[pv (findR d s).1, .int .i64 (findR d s).2]) ∧ Below w.heap.size w w' := by
  have hc0 := blk_cell h.hd 0
  have hlk := look_dir h.hm s
  replace hc0 : w.cell? ⟨d.gd, 0, none⟩ = some (.map (some d.bd)) := hc0
  unfold findR
  by_cases hb : badName s = true
  · rw [if_pos hb]
    have hn := names1 s w (t := false) (by rw [hb]; rfl)
    clear hb h
    generalize pv (getM d.dir s) = vf at hlk
    go_enter Try.func38, Try.ntmps38
    go_wp2_with (go_at_call 36; refine hn.mono ?_; rintro e w1 ⟨rfl, rfl⟩)
    go_ret2
    exact ⟨rfl, below_alloc (Below.refl _ _) _⟩
  · have hb' : badName s = false := by simpa using hb
    rw [if_neg hb]
    have hn := names1 s w (t := true) (by rw [hb']; rfl)
    clear hb hb' h
    cases hgm : getM d.dir s with
    | none =>
      rw [hgm] at hlk
      replace hlk : (Instr.lookup 56 (.map (some d.bd)) (.string s) false).run Try.prog w = .ok (.pointer none) w := hlk
      clear hgm
      go_enter Try.func38, Try.ntmps38
      go_wp2_with (go_at_call 36; refine hn.mono ?_; rintro e w1 ⟨rfl, rfl⟩)
      go_ret2
      exact ⟨rfl, below_alloc (Below.refl _ _) _⟩
    | some g =>
      rw [hgm] at hlk
      replace hlk : (Instr.lookup 56 (.map (some d.bd)) (.string s) false).run Try.prog w = .ok (.pointer (some ⟨g, 0, none⟩)) w := hlk
      clear hgm
      go_enter Try.func38, Try.ntmps38
      go_wp2_with (go_at_call 36; refine hn.mono ?_; rintro e w1 ⟨rfl, rfl⟩)
      go_ret2
      exact ⟨rfl, below_alloc (Below.refl _ _) _⟩
theorem quotaC {w : World} {d : DSt} (h : DiskAt w d) (q : Int) : Calls Try.prog 12 #[.pointer (some ⟨d.gd, 0, none⟩), .int .i64 q] w fun e w' => e = .returned (.tuple #[]) ∧ w' = w.setCell ⟨d.gd, 3, none⟩ (.int .i64 q) := by
  have hc3 := blk_cell h.hd 3
  have hf3 := blk_frozen h.hd 3
  replace hc3 : w.cell? ⟨d.gd, 3, none⟩ = some (.int .i64 d.quota) := hc3
  go_enter Try.func12, Try.ntmps12
  go_wp2
  go_end0
  exact ⟨rfl, rfl⟩
end Go.Proofs.Ytoninmgglcepmaa.Dk
