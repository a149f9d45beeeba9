/- Marks behind a pointer: the walks of Has, Left and Encode over a state whose slice keeps its place (written from the printed walks by gmk.py). -/
import Derived.StillTailTactics
import Derived.Test.YtodadonpfcefbaaQDelsReadsx3
import Derived.Deep.RegionHeld3
import Derived.Test.YtodadonpfcefbaaB0
namespace Go.Proofs.Ytodadonpfcefbaa.Marks
open Go.RowKit Go.Proofs.YtodadonpfcefbaaW.PrintWords Go.Proofs.YtodadonpfcefbaaW.PrintLast Go.Proofs.YtodadonpfcefbaaW.PrintMore Go.Proofs.Ytodadonpfcefbaa.QDelsReads
attribute [local go_sem] max2_int min2_int max_two min_two max_three min_three max_four min_four
set_option linter.unusedVariables false
set_option linter.unusedSimpArgs false
variable {b : Nat}
def IsMk (b : Nat) (w0 W : World) (g : Nat) (f0 : Int) (f1 : List Int) : Prop := ∃ A1 c1, W.heap[g]? = some (.cells #[.int .i64 f0, .slice A1 f1.length c1] 50 (0, 0)) ∧ w0.heap.size ≤ g ∧ (Kd.C (Kd.int .u8) w0 A1 f1.length f1 ∧ A1 = some ⟨b, 0, none⟩ ∧ c1 = f1.length)
theorem IsMk.grown {w0 W : World} {g : Nat} {f0 : Int} {f1 : List Int} {W1 : World} {row : Option Nat} (h : IsMk b w0 W g f0 f1) (hw : W.grownBy W1 row) (hne : some g ≠ row) : IsMk b w0 W1 g f0 f1 := by
  obtain ⟨A1, c1, hb, hg, hr1⟩ := h
  exact ⟨A1, c1, blk_grown hb hw hne, hg, hr1⟩
theorem IsMk.own_neN {w0 W : World} {g : Nat} {f0 : Int} {f1 : List Int} {α : Type} {d : Kd α} {e : Nat} {base : Nat} {ok : Nat → Prop} {v : Value} {xs : List α} (h : IsMk b w0 W g f0 f1) (ho : Kd.N d e W base ok v xs) (ht : e ≠ 50) : some g ≠ v.ownBlock := by
  obtain ⟨A1, c1, hb, hg, hr1⟩ := h
  exact Kd.N_ne ho hb ht
theorem IsMk.fresh {w0 W : World} {g : Nat} {f0 : Int} {f1 : List Int} (h : IsMk b w0 W g f0 f1) : ∀ k, W.heap.size ≤ k → k ≠ g := by
  obtain ⟨A1, c1, hb, hg, hr1⟩ := h
  exact Kd.freshB hb
theorem IsMk.kept {w0 W : World} {g : Nat} {f0 : Int} {f1 : List Int} {W1 : World} {S : Nat → Prop} (h : IsMk b w0 W g f0 f1) (hk : Kept W W1 S) (hne : ¬ S g) : IsMk b w0 W1 g f0 f1 := by
  obtain ⟨A1, c1, hb, hg, hr1⟩ := h
  exact ⟨A1, c1, blk_kept hb hk hne, hg, hr1⟩
theorem IsMk.below {w0 W : World} {g : Nat} {f0 : Int} {f1 : List Int} {W1 : World} (h : IsMk b w0 W g f0 f1) (hw : Below W.heap.size W W1) : IsMk b w0 W1 g f0 f1 := h.grown (grown_of_below hw none) (by simp)
theorem IsMk.alloc {w0 W : World} {g : Nat} {f0 : Int} {f1 : List Int} (h : IsMk b w0 W g f0 f1) (o : Obj) : IsMk b w0 (W.alloc o) g f0 f1 := h.below (below_alloc (Below.refl _ _) o)
theorem IsMk.drewN {w0 W : World} {g : Nat} {f0 : Int} {f1 : List Int} (h : IsMk b w0 W g f0 f1) (m : Nat) : IsMk b w0 (W.drewN m) g f0 f1 := h
theorem IsMk.drew {w0 W : World} {g : Nat} {f0 : Int} {f1 : List Int} (h : IsMk b w0 W g f0 f1) : IsMk b w0 W.drew g f0 f1 := h
theorem IsMk.at_ {w0 W : World} {g : Nat} {f0 : Int} {f1 : List Int} {w' : World} {m : Nat} (hq : W.drewN m = w') (h : IsMk b w0 W g f0 f1) : IsMk b w0 w' g f0 f1 := by subst hq; exact IsMk.drewN h m
theorem IsMk.apart {w0 W : World} {g : Nat} {f0 : Int} {f1 : List Int} {α : Type} {d : Kd α} {e : Nat} {base : Nat} {ok : Nat → Prop} {v : Value} {xs : List α} (h : IsMk b w0 W g f0 f1) (ho : d.R e W base ok v xs) (ht : ∀ q, q ∈ e :: d.E → q ≠ 50) : d.R e W base (fun k => ok k ∧ k ≠ g) v xs := by
  obtain ⟨A1, c1, hb, hg, hr1⟩ := h
  exact Kd.R_types ho hb ht
theorem IsMk.own_ne {w0 W : World} {g : Nat} {f0 : Int} {f1 : List Int} {α : Type} {d : Kd α} {e : Nat} {base : Nat} {ok : Nat → Prop} {v : Value} {xs : List α} (h : IsMk b w0 W g f0 f1) (ho : d.R e W base ok v xs) (ht : e ≠ 50) : some g ≠ v.ownBlock := by
  obtain ⟨A1, c1, hb, hg, hr1⟩ := h
  exact Kd.R_ne ho hb ht
theorem IsMk.apartQ {w0 W : World} {g : Nat} {f0 : Int} {f1 : List Int} {α : Type} {d : Kd α} {e : Nat} {base : Nat} {ok : Nat → Prop} {v : Value} {xs : List α} (h : IsMk b w0 W g f0 f1) (ho : d.Q e W base ok v xs) (ht : ∀ q, q ∈ e :: d.E → q ≠ 50) : d.Q e W base (fun k => ok k ∧ k ≠ g) v xs := by
  obtain ⟨A1, c1, hb, hg, hr1⟩ := h
  exact Kd.Q_types ho hb ht
theorem IsMk.own_neQ {w0 W : World} {g : Nat} {f0 : Int} {f1 : List Int} {α : Type} {d : Kd α} {e : Nat} {base : Nat} {ok : Nat → Prop} {v : Value} {xs : List α} (h : IsMk b w0 W g f0 f1) (ho : d.Q e W base ok v xs) (ht : e ≠ 50) : some g ≠ v.ownBlock := by
  obtain ⟨A1, c1, hb, hg, hr1⟩ := h
  exact Kd.Q_ne ho hb ht
theorem IsMk.apartS {w0 W : World} {g : Nat} {f0 : Int} {f1 : List Int} {α : Type} {d : Kd α} {e : Nat} {base : Nat} {ok : Nat → Prop} {v : Value} {xs : List α} (h : IsMk b w0 W g f0 f1) (ho : d.S e W base ok v xs) (ht : ∀ q, q ∈ e :: d.E → q ≠ 50) : d.S e W base (fun k => ok k ∧ k ≠ g) v xs := by
  obtain ⟨A1, c1, hb, hg, hr1⟩ := h
  exact Kd.S_types ho hb ht
theorem IsMk.own_neS {w0 W : World} {g : Nat} {f0 : Int} {f1 : List Int} {α : Type} {d : Kd α} {e : Nat} {base : Nat} {ok : Nat → Prop} {v : Value} {xs : List α} (h : IsMk b w0 W g f0 f1) (ho : d.S e W base ok v xs) (ht : e ≠ 50) : some g ≠ v.ownBlock := by
  obtain ⟨A1, c1, hb, hg, hr1⟩ := h
  exact Kd.S_ne ho hb ht
theorem IsMk.lt {w0 W : World} {g : Nat} {f0 : Int} {f1 : List Int} (h : IsMk b w0 W g f0 f1) : g < W.heap.size := by
  obtain ⟨A1, c1, hb, hg, hr1⟩ := h
  exact blk_lt hb
theorem IsMk.ge {w0 W : World} {g : Nat} {f0 : Int} {f1 : List Int} (h : IsMk b w0 W g f0 f1) : w0.heap.size ≤ g := by
  obtain ⟨A1, c1, hb, hg, hr1⟩ := h
  exact hg
theorem IsMk.ne_blk {w0 W : World} {g : Nat} {f0 : Int} {f1 : List Int} {a : Nat} {cs : Array Value} {t : TypeId} {fr : Nat × Nat} (h : IsMk b w0 W g f0 f1) (hb2 : W.heap[a]? = some (.cells cs t fr)) (ht : t ≠ 50) : g ≠ a := by
  obtain ⟨A1, c1, hb, hg, hr1⟩ := h
  rintro rfl
  rw [hb] at hb2
  injection hb2 with hb2
  injection hb2 with _ ht2
  exact ht ht2.symm
theorem IsMk.far {w0 W : World} {g : Nat} {f0 : Int} {f1 : List Int} {p : Addr} (h : IsMk b w0 W g f0 f1) (hne : g ≠ p.block) (u : Value) : IsMk b w0 (W.setCell p u) g f0 f1 := by
  obtain ⟨A1, c1, hb, hg, hr1⟩ := h
  exact ⟨A1, c1, blk_far hb hne u, hg, hr1⟩
theorem cellMk_0 {W : World} {g : Nat} {A1 : Option Addr} {c1 : Nat} {f0 : Int} {f1 : List Int} (h : W.heap[g]? = some (.cells #[.int .i64 f0, .slice A1 f1.length c1] 50 (0, 0))) : W.cell? ⟨g, 0, none⟩ = some (.int .i64 f0) := (blk_cell h 0).trans rfl
theorem IsMk.set_0 {w0 W : World} {g : Nat} {f0 : Int} {f1 : List Int} (h : IsMk b w0 W g f0 f1) (x : Int) : IsMk b w0 (W.setCell ⟨g, 0, none⟩ (.int .i64 x)) g x f1 := by
  obtain ⟨A1, c1, hb, hg, hr1⟩ := h
  exact ⟨A1, c1, by simpa using blk_set hb 0 (.int .i64 x), hg, hr1⟩
theorem cellMk_1 {W : World} {g : Nat} {A1 : Option Addr} {c1 : Nat} {f0 : Int} {f1 : List Int} (h : W.heap[g]? = some (.cells #[.int .i64 f0, .slice A1 f1.length c1] 50 (0, 0))) : W.cell? ⟨g, 1, none⟩ = some (.slice A1 f1.length c1) := (blk_cell h 1).trans rfl

set_option maxHeartbeats 8000000 in
set_option maxRecDepth 100000 in
theorem Has_calls (g : Nat) (s0_0 : Int) (s0_1 : List Int) (a1 : Int) (r1 : Bool) (r2 : Int) (w0 w : World) (hI : IsMk b w0 w g s0_0 s0_1) (hB : Below w0.heap.size w0 w) (h : dels_Marks_Has.f s0_0 s0_1 a1 = some (r1, r2)) :
    Calls Try.prog 10 #[.pointer (some ⟨g, 0, none⟩), .int .i64 a1] w fun e w' => e = .returned (.bool r1) ∧ IsMk b w0 w' g r2 s0_1 ∧ Below w0.heap.size w0 w' ∧ KeepBut w w' g none := by
  have HI0 := Aside0.mk hI
  have HK := Aside0.mk (KeepBut.refl w g none)
  have HL := Aside0.mk hB.size
  clear hI
  have HW0 := Aside0.mk hB.size
  have HB := Aside0.mk hB
  clear hB
  have H : (if a1 ≥ 0 then (if a1 < s0_0 then (if 0 ≤ (wrap64 (Int.tdiv a1 8)) then (if (wrap64 (Int.tdiv a1 8)) < (s0_1.length : Int) then (if 0 ≤ (Int.tmod a1 8) then (some (((Go.bits .and .u8 (shr .u8 (rd s0_1 (wrap64 (Int.tdiv a1 8))) (Int.tmod a1 8)) 1) == 1), s0_0)) else (none)) else (none)) else (none)) else (some (false, s0_0))) else (some (false, s0_0))) = some (r1, r2) := h
  clear h
  by_cases c3 : a1 ≥ 0
  · rw [if_pos c3] at H
    have c3b0 : decide (0 ≤ a1) = true := decide_eq_true c3
    clear c3
    by_cases c4 : a1 < s0_0
    · rw [if_pos c4] at H
      have c4b0 : decide (a1 < s0_0) = true := decide_eq_true c4
      clear c4
      obtain ⟨ji5, hji5⟩ : ∃ j_ : Int, (wrap64 (Int.tdiv a1 8)) = j_ := ⟨_, rfl⟩
      replace H : (if 0 ≤ (ji5) then (if (ji5) < (s0_1.length : Int) then (if 0 ≤ (Int.tmod a1 8) then (some (((Go.bits .and .u8 (shr .u8 (rd s0_1 (ji5)) (Int.tmod a1 8)) 1) == 1), s0_0)) else (none)) else (none)) else (none)) = some (r1, r2) := by first | (rw [hji5] at H; exact H) | (simp only [hji5] at H ⊢; exact H)
      have hji5w : (IntKind.i64.wrap (Int.tdiv a1 8)) = ji5 := (i64_w _).trans hji5
      by_cases c6 : 0 ≤ (ji5)
      · rw [if_pos c6] at H
        have c6b0 : decide (0 ≤ (ji5)) = true := decide_eq_true c6
        clear c6
        by_cases c7 : (ji5) < (s0_1.length : Int)
        · rw [if_pos c7] at H
          have c7b0 : decide ((ji5) < (s0_1.length : Int)) = true := decide_eq_true c7
          clear c7
          obtain ⟨ji8, hji8⟩ : ∃ j_ : Int, (Int.tmod a1 8) = j_ := ⟨_, rfl⟩
          replace H : (if 0 ≤ (ji8) then (some (((Go.bits .and .u8 (shr .u8 (rd s0_1 (ji5)) (ji8)) 1) == 1), s0_0)) else (none)) = some (r1, r2) := by first | (rw [hji8] at H; exact H) | (simp only [hji8] at H ⊢; exact H)
          by_cases c9 : 0 ≤ (ji8)
          · rw [if_pos c9] at H
            have c9b0 := eq_true c9
            have c9b1 : decide (0 ≤ (ji8)) = true := decide_eq_true c9
            clear c9
            obtain ⟨ji10, hji10⟩ : ∃ j_ : Int, (shr .u8 (rd s0_1 (ji5)) (ji8)) = j_ := ⟨_, rfl⟩
            replace H : (some (((Go.bits .and .u8 (ji10) 1) == 1), s0_0)) = some (r1, r2) := by first | (rw [hji10] at H; exact H) | (simp only [hji10] at H ⊢; exact H)
            have hji10_ : ((rd s0_1 (ji5)) / 2 ^ min (ji8).toNat 8) = ji10 := hji10
            have hji10z : (ji8) ≤ 8 → ((rd s0_1 (ji5)) / 2 ^ (ji8).toNat) = ji10 := shr_small hji10
            simp only [Option.some.injEq, Prod.mk.injEq] at H
            obtain ⟨rfl, rfl⟩ := H
            obtain ⟨ASz11_1, cSz11_1, HGz11, hgz11, HSz11_1, -⟩ := HI0.out
            have hcz11_0 := cellMk_0 HGz11
            have hcz11_1 := cellMk_1 HGz11
            have hfz11_0 := blk_frozen HGz11 0
            clear HGz11 hgz11
            have p101 : 0 ≤ ((ji5) : Int) := of_decide_eq_true (by first | (with_reducible assumption) | assumption)
            have q101 : (ji5) < (s0_1.length : Int) := of_decide_eq_true (by first | (with_reducible assumption) | assumption)
            obtain ⟨ad101, e101, hx101_0⟩ := Kd.at_int HSz11_1 (ji5) p101 q101
            cases e101
            replace hx101_0 := pw_cell_below HB.out hx101_0
            replace p101 := eq_true p101
            replace q101 := eq_true q101
            go_enter Try.func10, Try.ntmps10
            go_wp2
            go_ret
            exact ⟨by first | rfl | (simp [errW_none, errW_some] <;> rfl) | (simp only [← hji5, ← hji8, ← hji10]; first | rfl | (simp [errW_none, errW_some] <;> rfl)) | (simp [*, errW_none, errW_some] <;> rfl), by repeat (first | (with_reducible first | exact HI0.out | apply IsMk.alloc | apply IsMk.drewN | apply IsMk.drew | apply IsMk.set_0) | exact HI0.out), by repeat (first | (with_reducible first | exact HB.out | apply below_alloc | apply pw_below_drewN | apply below_drew1 | refine below_set ?_ (IsMk.ge HI0.out)) | exact HB.out), by repeat (first | (with_reducible first | exact HK.out | apply KeepBut.set_ | apply keep_drewN | apply keep_drew | apply keep_alloc) | exact HK.out)⟩
          · rw [if_neg c9] at H
            exact absurd H (by simp)
        · rw [if_neg c7] at H
          exact absurd H (by simp)
      · rw [if_neg c6] at H
        exact absurd H (by simp)
    · rw [if_neg c4] at H
      have c4b0 : decide (a1 < s0_0) = false := decide_eq_false c4
      clear c4
      simp only [Option.some.injEq, Prod.mk.injEq] at H
      obtain ⟨rfl, rfl⟩ := H
      obtain ⟨ASz12_1, cSz12_1, HGz12, hgz12, HSz12_1, -⟩ := HI0.out
      have hcz12_0 := cellMk_0 HGz12
      have hcz12_1 := cellMk_1 HGz12
      have hfz12_0 := blk_frozen HGz12 0
      clear HGz12 hgz12
      go_enter Try.func10, Try.ntmps10
      go_wp2
      go_ret
      exact ⟨by first | rfl | (simp [errW_none, errW_some] <;> rfl) | (simp [*, errW_none, errW_some] <;> rfl), by repeat (first | (with_reducible first | exact HI0.out | apply IsMk.alloc | apply IsMk.drewN | apply IsMk.drew | apply IsMk.set_0) | exact HI0.out), by repeat (first | (with_reducible first | exact HB.out | apply below_alloc | apply pw_below_drewN | apply below_drew1 | refine below_set ?_ (IsMk.ge HI0.out)) | exact HB.out), by repeat (first | (with_reducible first | exact HK.out | apply KeepBut.set_ | apply keep_drewN | apply keep_drew | apply keep_alloc) | exact HK.out)⟩
  · rw [if_neg c3] at H
    have c3b0 : decide (0 ≤ a1) = false := decide_eq_false c3
    clear c3
    simp only [Option.some.injEq, Prod.mk.injEq] at H
    obtain ⟨rfl, rfl⟩ := H
    go_enter Try.func10, Try.ntmps10
    go_wp2
    go_ret
    exact ⟨by first | rfl | (simp [errW_none, errW_some] <;> rfl) | (simp [*, errW_none, errW_some] <;> rfl), by repeat (first | (with_reducible first | exact HI0.out | apply IsMk.alloc | apply IsMk.drewN | apply IsMk.drew | apply IsMk.set_0) | exact HI0.out), by repeat (first | (with_reducible first | exact HB.out | apply below_alloc | apply pw_below_drewN | apply below_drew1 | refine below_set ?_ (IsMk.ge HI0.out)) | exact HB.out), by repeat (first | (with_reducible first | exact HK.out | apply KeepBut.set_ | apply keep_drewN | apply keep_drew | apply keep_alloc) | exact HK.out)⟩
set_option maxHeartbeats 8000000 in
set_option maxRecDepth 100000 in
theorem Left_calls (k : Nat) (g : Nat) (s0_0 : Int) (s0_1 : List Int) (r1 : List Int) (r2 : Int) (w0 w : World) (hI : IsMk b w0 w g s0_0 s0_1) (hB : Below w0.heap.size w0 w) (h : dels_Marks_Left.f k s0_0 s0_1 = some (r1, r2)) :
    Calls Try.prog 13 #[.pointer (some ⟨g, 0, none⟩)] w fun e w' => ∃ v0_ : Value, e = .returned (v0_) ∧ Kd.R (Kd.int .i64) 3 w' w.heap.size (fun _ => True) v0_ r1 ∧ IsMk b w0 w' g r2 s0_1 ∧ Below w0.heap.size w0 w' ∧ KeepBut w w' g none := by
  have HI0 := Aside0.mk hI
  have HK := Aside0.mk (KeepBut.refl w g none)
  have HL := Aside0.mk hB.size
  clear hI
  have HW0 := Aside0.mk hB.size
  have HB := Aside0.mk hB
  clear hB
  have H : (dels_Marks_Left.l0 k ([] : List Int) s0_0 0 s0_0 s0_1) = some (r1, r2) := h
  clear h
  have H' := Aside0.mk H
  clear H
  obtain ⟨ASz2_1, cSz2_1, HGz2, hgz2, HSz2_1, -⟩ := HI0.out
  have hcz2_0 := cellMk_0 HGz2
  have hcz2_1 := cellMk_1 HGz2
  have hfz2_0 := blk_frozen HGz2 0
  clear HGz2 hgz2
  go_enter Try.func13, Try.ntmps13
  go_wp2
  go_loopg [3, 9] k (fun kq v3 v9 w' => ∃ (x3_1 : List Int) (x9_1 : Int) (x1000_1 : Int), v9 = .int .i64 x9_1 ∧ Aside0 (dels_Marks_Left.l0 kq x3_1 s0_0 x9_1 x1000_1 s0_1 = some (r1, r2)) ∧ Aside0 (kq ≤ k) ∧ Aside0 (Kd.R (Kd.int .i64) 3 w' w.heap.size (fun _ => True) v3 x3_1) ∧ Aside0 (IsMk b w0 w' g x1000_1 s0_1) ∧ Aside0 (KeepBut w w' g none) ∧ Aside0 (Below w0.heap.size w0 w'))
  case atStart => exact ⟨(([] : List Int)), (0), (s0_0), (by first | rfl | (simp; done) | (simp [*]; done)), H', ⟨Nat.le_refl _⟩, ⟨by first | exact Kd.R_nil _ _ _ _ _ | exact Kd.N_nil _ _ _ _ _ | exact Kd.V_nil _ _ _ _ _ | exact Kd.Q_nil _ _ _ _ _ | exact Kd.S_nil _ _ _ _ _⟩, ⟨by repeat (first | (with_reducible first | exact HI0.out | apply IsMk.alloc | apply IsMk.drewN | apply IsMk.drew | apply IsMk.set_0) | exact HI0.out)⟩, ⟨by repeat (first | (with_reducible first | exact HK.out | apply KeepBut.set_ | apply keep_drewN | apply keep_drew | apply keep_alloc) | exact HK.out)⟩, ⟨by repeat (first | (with_reducible first | exact HB.out | apply below_alloc | apply pw_below_drewN | apply below_drew1 | refine below_set ?_ (IsMk.ge HI0.out)) | exact HB.out)⟩⟩
  case round =>
    clear H'
    try clear c1
    try clear p2
    try clear hcz2_0
    try clear hcz2_1
    try clear hfz2_0
    obtain ⟨x3_1, x9_1, x1000_1, rfl, HA, HK1, HO_3, HI0, HK, HB⟩ := hrel
    cases gk with
    | zero => exact absurd HA.out (by simp [dels_Marks_Left.l0])
    | succ k1 =>
      have H := HA.out
      clear HA
      simp only [dels_Marks_Left.l0] at H
      by_cases c3 : x9_1 < s0_0
      · rw [if_pos c3] at H
        have c3b0 : decide (x9_1 < s0_0) = true := decide_eq_true c3
        clear c3
        replace H := Option.bind_eq_some_iff.mp H
        obtain ⟨⟨t105, t106⟩, A40, H⟩ := H
        replace H : (if t105 = true then (dels_Marks_Left.l0 k1 x3_1 s0_0 (wrap64 (x9_1 + 1)) t106 s0_1) else (if x3_1.length < 17592186044416 then (dels_Marks_Left.l0 k1 (x3_1 ++ [x9_1]) s0_0 (wrap64 (x9_1 + 1)) t106 s0_1) else (none))) = some (r1, r2) := H
        have A4 := Aside0.mk A40
        clear A40
        by_cases c5 : t105 = true
        · subst c5
          have H1 : (dels_Marks_Left.l0 k1 x3_1 s0_0 (wrap64 (x9_1 + 1)) t106 s0_1) = some (r1, r2) := by rw [if_pos rfl] at H; exact H
          clear H
          have H := H1
          clear H1
          have H' := Aside0.mk H
          clear H
          go_wp2_with (first | ((with_reducible refine gate_callee (f := 10) rfl ?_); refine goesL_ (some 14) rfl rfl Try.func10 (by kernel_rfl) rfl #[.pointer (some ⟨g, 0, none⟩), .int .i64 x9_1] rfl (by (try simp only [List.map_toArray, List.map_cons, List.map_nil]); first | done | rfl | (simp only [List.length_drop, List.length_take]; rfl)) ?_; (with_reducible refine (Has_calls (b := b) g x1000_1 s0_1 x9_1 true t106 w0 _ ?side1 ?side2 A4.out).mono ?_); (case side1 => repeat (first | (with_reducible first | exact HI0.out | apply IsMk.alloc | apply IsMk.drewN | apply IsMk.drew | apply IsMk.set_0) | exact HI0.out)); (case side2 => repeat (first | (with_reducible first | exact HB.out | apply below_alloc | apply pw_below_drewN | apply below_drew1 | refine below_set ?_ (IsMk.ge HI0.out)) | exact HB.out)); rintro e w6 ⟨rfl, hi, hb, hk⟩; refine ⟨_, rfl, ?_⟩; have n0_ := Aside0.mk (Kd.R_mono (Kd.R_keep (IsMk.apart (show IsMk b w0 _ g x1000_1 s0_1 from by repeat (first | (with_reducible first | exact HI0.out | apply IsMk.alloc | apply IsMk.drewN | apply IsMk.drew | apply IsMk.set_0) | exact HI0.out)) (by (with_reducible repeat (first | apply Kd.R_alloc | apply Kd.R_drewN | apply Kd.R_drew)); exact HO_3.out) (by decide)) hk (fun _ h => h.2)) (fun _ h => h.1)); have n1_ := Aside0.mk (KeepBut.trans (by repeat (first | (with_reducible first | exact HK.out | apply KeepBut.set_ | apply keep_drewN | apply keep_drew | apply keep_alloc) | exact HK.out)) hk (.inl rfl)); have n2_ := Aside0.mk (hb); have n3_ := Aside0.mk (hi); clear HO_3; clear HK; clear HB; clear HI0; have HO_3 := n0_; have HK := n1_; have HB := n2_; have HI0 := n3_; clear n0_ n1_ n2_ n3_; (try clear hb); (try clear hb2); (try clear hk); (try clear hi)))
          go_roundg k1
          case measure => have := HK1.out; omega
          case rel => exact ⟨(x3_1), (wrap64 (x9_1 + 1)), (t106), (by first | rfl | (simp; done) | (simp [*]; done)), H', ⟨by have := HK1.out; omega⟩, ⟨by (with_reducible repeat (first | apply Kd.R_alloc | apply Kd.R_drewN | apply Kd.R_drew)); exact HO_3.out⟩, ⟨by repeat (first | (with_reducible first | exact HI0.out | apply IsMk.alloc | apply IsMk.drewN | apply IsMk.drew | apply IsMk.set_0) | exact HI0.out)⟩, ⟨by repeat (first | (with_reducible first | exact HK.out | apply KeepBut.set_ | apply keep_drewN | apply keep_drew | apply keep_alloc) | exact HK.out)⟩, ⟨by repeat (first | (with_reducible first | exact HB.out | apply below_alloc | apply pw_below_drewN | apply below_drew1 | refine below_set ?_ (IsMk.ge HI0.out)) | exact HB.out)⟩⟩
        · replace c5 := Bool.eq_false_iff.mpr c5
          subst c5
          have H1 : (if x3_1.length < 17592186044416 then (dels_Marks_Left.l0 k1 (x3_1 ++ [x9_1]) s0_0 (wrap64 (x9_1 + 1)) t106 s0_1) else (none)) = some (r1, r2) := by rw [if_neg (show ¬ (false = true) by decide)] at H; exact H
          clear H
          have H := H1
          clear H1
          by_cases c7 : x3_1.length < 17592186044416
          · rw [if_pos c7] at H
            have LMc7 := Aside0.mk c7
            clear c7
            obtain ⟨y107, hy107⟩ : ∃ y_ : List Int, y_ = (x3_1 ++ [x9_1]) := ⟨_, rfl⟩
            replace H : (dels_Marks_Left.l0 k1 y107 s0_0 (wrap64 (x9_1 + 1)) t106 s0_1) = some (r1, r2) := by first | (rw [hy107]; with_reducible exact H) | (have H2_ := (Option.bind_some _ _).symm.trans H; rw [hy107]; with_reducible exact H2_) | (have H2_ := (Option.bind_some _ _).symm.trans H; with_reducible exact H2_) | with_reducible exact H | (rw [hy107]; exact H) | exact H
            have Ny107 := Aside0.mk hy107
            clear hy107
            have H' := Aside0.mk H
            clear H
            go_wp2_with (first | ((with_reducible refine gate_callee (f := 10) rfl ?_); refine goesL_ (some 14) rfl rfl Try.func10 (by kernel_rfl) rfl #[.pointer (some ⟨g, 0, none⟩), .int .i64 x9_1] rfl (by (try simp only [List.map_toArray, List.map_cons, List.map_nil]); first | done | rfl | (simp only [List.length_drop, List.length_take]; rfl)) ?_; (with_reducible refine (Has_calls (b := b) g x1000_1 s0_1 x9_1 false t106 w0 _ ?side1 ?side2 A4.out).mono ?_); (case side1 => repeat (first | (with_reducible first | exact HI0.out | apply IsMk.alloc | apply IsMk.drewN | apply IsMk.drew | apply IsMk.set_0) | exact HI0.out)); (case side2 => repeat (first | (with_reducible first | exact HB.out | apply below_alloc | apply pw_below_drewN | apply below_drew1 | refine below_set ?_ (IsMk.ge HI0.out)) | exact HB.out)); rintro e w8 ⟨rfl, hi, hb, hk⟩; refine ⟨_, rfl, ?_⟩; have n0_ := Aside0.mk (Kd.R_mono (Kd.R_keep (IsMk.apart (show IsMk b w0 _ g x1000_1 s0_1 from by repeat (first | (with_reducible first | exact HI0.out | apply IsMk.alloc | apply IsMk.drewN | apply IsMk.drew | apply IsMk.set_0) | exact HI0.out)) (by (with_reducible repeat (first | apply Kd.R_alloc | apply Kd.R_drewN | apply Kd.R_drew)); exact HO_3.out) (by decide)) hk (fun _ h => h.2)) (fun _ h => h.1)); have n1_ := Aside0.mk (KeepBut.trans (by repeat (first | (with_reducible first | exact HK.out | apply KeepBut.set_ | apply keep_drewN | apply keep_drew | apply keep_alloc) | exact HK.out)) hk (.inl rfl)); have n2_ := Aside0.mk (hb); have n3_ := Aside0.mk (hi); clear HO_3; clear HK; clear HB; clear HI0; have HO_3 := n0_; have HK := n1_; have HB := n2_; have HI0 := n3_; clear n0_ n1_ n2_ n3_; (try clear hb); (try clear hb2); (try clear hk); (try clear hi)) | ((with_reducible refine gate_builtin (b := .append) (xs := #[.tmp 16, .tmp 18]) rfl ?_); at_builtin; refine Kd.R_append (Kd.int .i64) w.heap.size rfl (.tmp 16) (.tmp 18) 22 3 (.int .i64 0) 8 rfl Try.underlying22 info3 rfl (by decide) (by omega) u3 x3_1 x9_1 [.int .i64 x9_1] (fun _ => True) (fun _ => False) rfl rfl ?aP (fun _ hk => hk.elim) ?aF ?aO (Below.refl _ _) ?aS ?aL ?_; (case aP => exact rfl); (case aF => exact (fun _ _ => trivial)); (case aO => exact (by (with_reducible repeat (first | apply Kd.R_alloc | apply Kd.R_drewN | apply Kd.R_drew)); exact HO_3.out)); (case aS => exact (keep_size (w := w) (g := g) (row := none) (by repeat (first | (with_reducible first | exact HK.out | apply KeepBut.set_ | apply keep_drewN | apply keep_drew | apply keep_alloc) | exact HK.out)))); (case aL => have := LMc7.out; omega); intro v108 w9 ho hb hg hat; rw [← Ny107.out] at ho; have n0_ := Aside0.mk (IsMk.grown (by repeat (first | (with_reducible first | exact HI0.out | apply IsMk.alloc | apply IsMk.drewN | apply IsMk.drew | apply IsMk.set_0) | exact HI0.out)) hg (IsMk.own_ne HI0.out HO_3.out (by decide))); have n1_ := Aside0.mk (below_weaken (by repeat (first | (with_reducible first | exact HB.out | apply below_alloc | apply pw_below_drewN | apply below_drew1 | refine below_set ?_ (IsMk.ge HI0.out)) | exact HB.out)) HL.out hb); have n2_ := Aside0.mk (KeepBut.trans (by repeat (first | (with_reducible first | exact HK.out | apply KeepBut.set_ | apply keep_drewN | apply keep_drew | apply keep_alloc) | exact HK.out)) (KeepBut.of_grown hg g) (Kd.R_base2 HO_3.out)); have n3_ := Aside0.mk (ho); clear HI0; clear HB; clear HK; clear HO_3; have HI0 := n0_; have HB := n1_; have HK := n2_; have HO109 := n3_; clear n0_ n1_ n2_ n3_; clear ho hb hg hat))
            go_roundg k1
            case measure => have := HK1.out; omega
            case rel => exact ⟨(y107), (wrap64 (x9_1 + 1)), (t106), (by first | rfl | (simp; done) | (simp [*]; done)), H', ⟨by have := HK1.out; omega⟩, ⟨by (with_reducible repeat (first | apply Kd.R_alloc | apply Kd.R_drewN | apply Kd.R_drew)); exact HO109.out⟩, ⟨by repeat (first | (with_reducible first | exact HI0.out | apply IsMk.alloc | apply IsMk.drewN | apply IsMk.drew | apply IsMk.set_0) | exact HI0.out)⟩, ⟨by repeat (first | (with_reducible first | exact HK.out | apply KeepBut.set_ | apply keep_drewN | apply keep_drew | apply keep_alloc) | exact HK.out)⟩, ⟨by repeat (first | (with_reducible first | exact HB.out | apply below_alloc | apply pw_below_drewN | apply below_drew1 | refine below_set ?_ (IsMk.ge HI0.out)) | exact HB.out)⟩⟩
          · rw [if_neg c7] at H
            exact absurd H (by simp)
      · rw [if_neg c3] at H
        have c3b0 : decide (x9_1 < s0_0) = false := decide_eq_false c3
        clear c3
        simp only [Option.some.injEq, Prod.mk.injEq] at H
        obtain ⟨rfl, rfl⟩ := H
        go_wp2
        go_ret
        exact ⟨_, by first | rfl | (simp [errW_none, errW_some] <;> rfl) | (simp [*, errW_none, errW_some] <;> rfl), by (with_reducible repeat (first | apply Kd.R_alloc | apply Kd.R_drewN | apply Kd.R_drew)); exact HO_3.out, by repeat (first | (with_reducible first | exact HI0.out | apply IsMk.alloc | apply IsMk.drewN | apply IsMk.drew | apply IsMk.set_0) | exact HI0.out), by repeat (first | (with_reducible first | exact HB.out | apply below_alloc | apply pw_below_drewN | apply below_drew1 | refine below_set ?_ (IsMk.ge HI0.out)) | exact HB.out), by repeat (first | (with_reducible first | exact HK.out | apply KeepBut.set_ | apply keep_drewN | apply keep_drew | apply keep_alloc) | exact HK.out)⟩
set_option maxHeartbeats 8000000 in
set_option maxRecDepth 100000 in
theorem Encode_calls (k : Nat) (g : Nat) (s0_0 : Int) (s0_1 : List Int) (r1 : List Int) (r2 : Int) (w0 w : World) (hI : IsMk b w0 w g s0_0 s0_1) (hB : Below w0.heap.size w0 w) (h : dels_Marks_Encode.f k s0_0 s0_1 = some (r1, r2)) :
    Calls Try.prog 18 #[.pointer (some ⟨g, 0, none⟩)] w fun e w' => ∃ v0_ : Value, e = .returned (v0_) ∧ Kd.R (Kd.int .u8) 5 w' w.heap.size (fun _ => True) v0_ r1 ∧ IsMk b w0 w' g r2 s0_1 ∧ Below w0.heap.size w0 w' ∧ KeepBut w w' g none := by
  have HI0 := Aside0.mk hI
  have HK := Aside0.mk (KeepBut.refl w g none)
  have HL := Aside0.mk hB.size
  clear hI
  have HW0 := Aside0.mk hB.size
  have HB := Aside0.mk hB
  clear hB
  have H : (if 0 ≤ s0_0 then (if (s0_0 : Int).toNat ≤ 35184372088832 then ((some (List.replicate (s0_0 : Int).toNat 0 : List Int)).bind fun y187 => (dels_Marks_Encode.l0 k y187 (y187.length : Int) 0 s0_0 s0_1)) else (none)) else (none)) = some (r1, r2) := h
  clear h
  by_cases c2 : 0 ≤ s0_0
  · rw [if_pos c2] at H
    have c2b0 := eq_true c2
    have c2b1 : decide (0 ≤ s0_0) = true := decide_eq_true c2
    clear c2
    by_cases c3 : (s0_0 : Int).toNat ≤ 35184372088832
    · rw [if_pos c3] at H
      have c3b0 := eq_true c3
      have c3b1 : decide ((s0_0 : Int).toNat ≤ 35184372088832) = true := decide_eq_true c3
      clear c3
      obtain ⟨y187, hy187⟩ : ∃ y_ : List Int, y_ = (List.replicate (s0_0 : Int).toNat 0) := ⟨_, rfl⟩
      replace H : (dels_Marks_Encode.l0 k y187 (y187.length : Int) 0 s0_0 s0_1) = some (r1, r2) := by first | (rw [hy187]; with_reducible exact H) | (have H2_ := (Option.bind_some _ _).symm.trans H; rw [hy187]; with_reducible exact H2_) | (have H2_ := (Option.bind_some _ _).symm.trans H; with_reducible exact H2_) | with_reducible exact H | (rw [hy187]; exact H) | exact H
      have Ny187 := Aside0.mk hy187
      clear hy187
      have H' := Aside0.mk H
      clear H
      obtain ⟨ASz4_1, cSz4_1, HGz4, hgz4, HSz4_1, -⟩ := HI0.out
      have hcz4_0 := cellMk_0 HGz4
      have hcz4_1 := cellMk_1 HGz4
      have hfz4_0 := blk_frozen HGz4 0
      clear HGz4 hgz4
      go_enter Try.func18, Try.ntmps18
      go_wp2_with (first | ((with_reducible refine gate_dst (N := 11) rfl ?_); refine Kd.R_make (Kd.int .u64) _ 53 rfl (N := 11) rfl 52 _ _ rfl s0_0 rfl rfl Try.underlying52 (.int .u64 0) 8 info53 rfl (by decide) (by omega) 0 (ok := fun _ => True) (okp := fun _ => True) rfl (fun _ hk => hk) trivial (of_decide_eq_true (by first | (with_reducible assumption) | assumption)) (Nat.le_trans (Nat.mul_le_mul_right _ (of_decide_eq_true (by first | (with_reducible assumption) | assumption) : s0_0.toNat ≤ 35184372088832)) (by omega)) (Below.refl _ _) (Nat.le_refl _) ?_; intro v188 w5 ho6 hb hg_ hnew_; clear hg_ hnew_; (first | rw [← Ny187.out] at ho6 | (simp only [Int.reduceToNat] at ho6; rw [← Ny187.out] at ho6)); have n0_ := Aside0.mk (Kd.R_lower ho6 (keep_size (w := w) (g := g) (row := none) (by repeat (first | (with_reducible first | exact HK.out | apply KeepBut.set_ | apply keep_drewN | apply keep_drew | apply keep_alloc) | exact HK.out)))); have n1_ := Aside0.mk (IsMk.below (by repeat (first | (with_reducible first | exact HI0.out | apply IsMk.alloc | apply IsMk.drewN | apply IsMk.drew | apply IsMk.set_0) | exact HI0.out)) hb); have n2_ := Aside0.mk (KeepBut.trans (by repeat (first | (with_reducible first | exact HK.out | apply KeepBut.set_ | apply keep_drewN | apply keep_drew | apply keep_alloc) | exact HK.out)) (KeepBut.of_below hb g none) (.inl rfl)); have n3_ := Aside0.mk (below_step (by repeat (first | (with_reducible first | exact HB.out | apply below_alloc | apply pw_below_drewN | apply below_drew1 | refine below_set ?_ (IsMk.ge HI0.out)) | exact HB.out)) hb); clear HI0; clear HK; clear HB; have HO189 := n0_; have HI0 := n1_; have HK := n2_; have HB := n3_; clear n0_ n1_ n2_ n3_; clear hb ho6; obtain ⟨Ao7, co7, eo7⟩ := Kd.R_slice HO189.out; subst eo7))
      try simp only [Act.put, List.setIfInBounds_toArray, List.set_cons_zero, List.set_cons_succ]
      go_loopg [14] k (fun kq v14 w' => ∃ (x3_1 : List Int) (x14_1 : Int) (x1000_1 : Int), v14 = .int .i64 x14_1 ∧ Aside0 (dels_Marks_Encode.l0 kq x3_1 (y187.length : Int) x14_1 x1000_1 s0_1 = some (r1, r2)) ∧ Aside0 (kq ≤ k) ∧ Aside0 (Kd.R (Kd.int .u64) 53 w' w.heap.size (fun _ => True) (.slice Ao7 y187.length co7) x3_1) ∧ Aside0 (IsMk b w0 w' g x1000_1 s0_1) ∧ Aside0 (KeepBut w w' g none) ∧ Aside0 (Below w0.heap.size w0 w'))
      case atStart => exact ⟨(y187), (0), (s0_0), (by first | rfl | (simp; done) | (simp [*]; done)), H', ⟨Nat.le_refl _⟩, ⟨by (with_reducible repeat (first | apply Kd.R_alloc | apply Kd.R_drewN | apply Kd.R_drew)); exact HO189.out⟩, ⟨by repeat (first | (with_reducible first | exact HI0.out | apply IsMk.alloc | apply IsMk.drewN | apply IsMk.drew | apply IsMk.set_0) | exact HI0.out)⟩, ⟨by repeat (first | (with_reducible first | exact HK.out | apply KeepBut.set_ | apply keep_drewN | apply keep_drew | apply keep_alloc) | exact HK.out)⟩, ⟨by repeat (first | (with_reducible first | exact HB.out | apply below_alloc | apply pw_below_drewN | apply below_drew1 | refine below_set ?_ (IsMk.ge HI0.out)) | exact HB.out)⟩⟩
      case round =>
        clear H'
        try clear c1
        try clear c2
        try clear c2b0
        try clear c2b1
        try clear p2
        try clear c3
        try clear c3b0
        try clear c3b1
        try clear hcz4_0
        try clear hcz4_1
        try clear hfz4_0
        obtain ⟨x3_1, x14_1, x1000_1, rfl, HA, HK1, HO_3, HI0, HK, HB⟩ := hrel
        have hl3_1 := (Kd.R_reads' HO_3.out).1
        rw [hl3_1] at HO_3
        (try simp only [hl3_1])
        cases gk with
        | zero => exact absurd HA.out (by simp [dels_Marks_Encode.l0])
        | succ k1 =>
          have H := HA.out
          clear HA
          simp only [dels_Marks_Encode.l0] at H
          by_cases c8 : x14_1 < (y187.length : Int)
          · rw [if_pos c8] at H
            have c8b0 : decide (x14_1 < (y187.length : Int)) = true := decide_eq_true c8
            have c8b1 : decide (x14_1 < (x3_1.length : Int)) = true := by rw [← hl3_1]; exact c8b0
            clear c8
            replace H := Option.bind_eq_some_iff.mp H
            obtain ⟨⟨t190, t191⟩, A90, H⟩ := H
            replace H : (if t190 = true then (if 0 ≤ x14_1 then (if x14_1 < (x3_1.length : Int) then (dels_Marks_Encode.l0 k1 (x3_1.set (x14_1 : Int).toNat 1) (y187.length : Int) (wrap64 (x14_1 + 1)) t191 s0_1) else (none)) else (none)) else (dels_Marks_Encode.l0 k1 x3_1 (y187.length : Int) (wrap64 (x14_1 + 1)) t191 s0_1)) = some (r1, r2) := H
            have A9 := Aside0.mk A90
            clear A90
            by_cases c10 : t190 = true
            · subst c10
              have H1 : (if 0 ≤ x14_1 then (if x14_1 < (x3_1.length : Int) then (dels_Marks_Encode.l0 k1 (x3_1.set (x14_1 : Int).toNat 1) (y187.length : Int) (wrap64 (x14_1 + 1)) t191 s0_1) else (none)) else (none)) = some (r1, r2) := by rw [if_pos rfl] at H; exact H
              clear H
              have H := H1
              clear H1
              by_cases c11 : 0 ≤ x14_1
              · rw [if_pos c11] at H
                have c11b0 : decide (0 ≤ x14_1) = true := decide_eq_true c11
                clear c11
                by_cases c12 : x14_1 < (x3_1.length : Int)
                · rw [if_pos c12] at H
                  have c12b0 : decide (x14_1 < (x3_1.length : Int)) = true := decide_eq_true c12
                  clear c12
                  obtain ⟨y192, hy192⟩ : ∃ y_ : List Int, y_ = (x3_1.set (x14_1 : Int).toNat 1) := ⟨_, rfl⟩
                  replace H : (dels_Marks_Encode.l0 k1 y192 (y187.length : Int) (wrap64 (x14_1 + 1)) t191 s0_1) = some (r1, r2) := by first | (rw [hy192]; with_reducible exact H) | (have H2_ := (Option.bind_some _ _).symm.trans H; rw [hy192]; with_reducible exact H2_) | (have H2_ := (Option.bind_some _ _).symm.trans H; with_reducible exact H2_) | with_reducible exact H | (rw [hy192]; exact H) | exact H
                  have Ny192 := Aside0.mk hy192
                  clear hy192
                  have H' := Aside0.mk H
                  clear H
                  go_wp2_with (first | ((with_reducible refine gate_callee (f := 10) rfl ?_); refine goesL_ (some 19) rfl rfl Try.func10 (by kernel_rfl) rfl #[.pointer (some ⟨g, 0, none⟩), .int .i64 x14_1] rfl (by (try simp only [List.map_toArray, List.map_cons, List.map_nil]); first | done | rfl | (simp only [List.length_drop, List.length_take]; rfl)) ?_; (with_reducible refine (Has_calls (b := b) g x1000_1 s0_1 x14_1 true t191 w0 _ ?side1 ?side2 A9.out).mono ?_); (case side1 => repeat (first | (with_reducible first | exact HI0.out | apply IsMk.alloc | apply IsMk.drewN | apply IsMk.drew | apply IsMk.set_0) | exact HI0.out)); (case side2 => repeat (first | (with_reducible first | exact HB.out | apply below_alloc | apply pw_below_drewN | apply below_drew1 | refine below_set ?_ (IsMk.ge HI0.out)) | exact HB.out)); rintro e w14 ⟨rfl, hi, hb, hk⟩; refine ⟨_, rfl, ?_⟩; have n0_ := Aside0.mk (Kd.R_mono (Kd.R_keep (IsMk.apart (show IsMk b w0 _ g x1000_1 s0_1 from by repeat (first | (with_reducible first | exact HI0.out | apply IsMk.alloc | apply IsMk.drewN | apply IsMk.drew | apply IsMk.set_0) | exact HI0.out)) (by (with_reducible repeat (first | apply Kd.R_alloc | apply Kd.R_drewN | apply Kd.R_drew)); exact HO_3.out) (by decide)) hk (fun _ h => h.2)) (fun _ h => h.1)); have n1_ := Aside0.mk (KeepBut.trans (by repeat (first | (with_reducible first | exact HK.out | apply KeepBut.set_ | apply keep_drewN | apply keep_drew | apply keep_alloc) | exact HK.out)) hk (.inl rfl)); have n2_ := Aside0.mk (hb); have n3_ := Aside0.mk (hi); clear HO_3; clear HK; clear HB; clear HI0; have HO_3 := n0_; have HK := n1_; have HB := n2_; have HI0 := n3_; clear n0_ n1_ n2_ n3_; (try clear hb); (try clear hb2); (try clear hk); (try clear hi); have p13 : 0 ≤ (x14_1 : Int) := of_decide_eq_true (by first | (with_reducible assumption) | assumption); have q13 : (x14_1 : Int) < ((x3_1.length : Int) : Int) := of_decide_eq_true (by first | (with_reducible assumption) | assumption); obtain ⟨go13, co13, eo13, gb13, gl13, cl13, HG13⟩ := Kd.R_form HO_3.out (by omega); (first | cases eo13 | (injection eo13 with ea_ en_ ec_; (first | subst ea_ | (injection ea_ with ea_; subst ea_)); subst ec_; clear en_)); have GB13 := Aside0.mk gb13; have GG13 := Aside0.mk HG13; clear gb13 gl13 HG13; obtain ⟨hx13_0, hf13_0⟩ := Kd.R_celln 0 HO_3.out (x14_1 : Int) p13 q13; replace p13 := eq_true p13; replace q13 := eq_true q13; obtain ⟨hy15_, hz15_⟩ := Kd.R_celln 0 HO_3.out (x14_1 : Int) (of_decide_eq_true (by first | (with_reducible assumption) | assumption)) (of_decide_eq_true (by first | (with_reducible assumption) | assumption)); have HP15 := Kd.R_putg HO_3.out (x14_1 : Int) 1) | ((with_reducible refine gate_store (t := 53) (p := 22) rfl ?_); refine store_event (t := 53) (p := 22) (v := ?vo_w16) (w1 := (w14.setCell ⟨go13, (x14_1 : Int).toNat, none⟩ (.int .u64 1))) ?hg ?ho ?hn ?hr ?_; (case ho => rfl); (case hg => rfl); (case hn => rfl); (case hr => first | (go_simp; done) | (go_simp; rfl)); intro w16 hw; have hg : w14.grownBy w16 (some go13) := (by rw [hw]; exact HP15.2); have hp_ : Kd.R (Kd.int .u64) 53 w16 w.heap.size (fun _ => True) (.slice (some ⟨go13, 0, none⟩) x3_1.length co7) y192 := (by rw [hw, Ny192.out]; exact HP15.1); clear HP15; have n0_ := Aside0.mk (hp_); have n1_ := Aside0.mk (IsMk.grown (by repeat (first | (with_reducible first | exact HI0.out | apply IsMk.alloc | apply IsMk.drewN | apply IsMk.drew | apply IsMk.set_0) | exact HI0.out)) hg (IsMk.own_ne HI0.out HO_3.out (by decide))); have n2_ := Aside0.mk ((by rw [hw]; exact below_set (HB.out) (Nat.le_trans HL.out GB13.out) : Below w0.heap.size w0 w16)); have n3_ := Aside0.mk (KeepBut.trans (by repeat (first | (with_reducible first | exact HK.out | apply KeepBut.set_ | apply keep_drewN | apply keep_drew | apply keep_alloc) | exact HK.out)) (KeepBut.of_grown hg g) (Kd.R_base2 HO_3.out)); clear HO_3; clear HI0; clear HB; clear HK; have HO_3 := n0_; have HI0 := n1_; have HB := n2_; have HK := n3_; clear n0_ n1_ n2_ n3_; clear hg hw hp_))
                  (try simp only [← hl3_1])
                  go_roundg k1
                  case measure => have := HK1.out; omega
                  case rel => exact ⟨(y192), (wrap64 (x14_1 + 1)), (t191), (by first | rfl | (simp; done) | (simp [*]; done)), H', ⟨by have := HK1.out; omega⟩, ⟨by (try simp only [hl3_1]); (with_reducible repeat (first | apply Kd.R_alloc | apply Kd.R_drewN | apply Kd.R_drew)); exact HO_3.out⟩, ⟨by repeat (first | (with_reducible first | exact HI0.out | apply IsMk.alloc | apply IsMk.drewN | apply IsMk.drew | apply IsMk.set_0) | exact HI0.out)⟩, ⟨by repeat (first | (with_reducible first | exact HK.out | apply KeepBut.set_ | apply keep_drewN | apply keep_drew | apply keep_alloc) | exact HK.out)⟩, ⟨by repeat (first | (with_reducible first | exact HB.out | apply below_alloc | apply pw_below_drewN | apply below_drew1 | refine below_set ?_ (IsMk.ge HI0.out)) | exact HB.out)⟩⟩
                · rw [if_neg c12] at H
                  exact absurd H (by simp)
              · rw [if_neg c11] at H
                exact absurd H (by simp)
            · replace c10 := Bool.eq_false_iff.mpr c10
              subst c10
              have H1 : (dels_Marks_Encode.l0 k1 x3_1 (y187.length : Int) (wrap64 (x14_1 + 1)) t191 s0_1) = some (r1, r2) := by rw [if_neg (show ¬ (false = true) by decide)] at H; exact H
              clear H
              have H := H1
              clear H1
              have H' := Aside0.mk H
              clear H
              go_wp2_with (first | ((with_reducible refine gate_callee (f := 10) rfl ?_); refine goesL_ (some 19) rfl rfl Try.func10 (by kernel_rfl) rfl #[.pointer (some ⟨g, 0, none⟩), .int .i64 x14_1] rfl (by (try simp only [List.map_toArray, List.map_cons, List.map_nil]); first | done | rfl | (simp only [List.length_drop, List.length_take]; rfl)) ?_; (with_reducible refine (Has_calls (b := b) g x1000_1 s0_1 x14_1 false t191 w0 _ ?side1 ?side2 A9.out).mono ?_); (case side1 => repeat (first | (with_reducible first | exact HI0.out | apply IsMk.alloc | apply IsMk.drewN | apply IsMk.drew | apply IsMk.set_0) | exact HI0.out)); (case side2 => repeat (first | (with_reducible first | exact HB.out | apply below_alloc | apply pw_below_drewN | apply below_drew1 | refine below_set ?_ (IsMk.ge HI0.out)) | exact HB.out)); rintro e w17 ⟨rfl, hi, hb, hk⟩; refine ⟨_, rfl, ?_⟩; have n0_ := Aside0.mk (Kd.R_mono (Kd.R_keep (IsMk.apart (show IsMk b w0 _ g x1000_1 s0_1 from by repeat (first | (with_reducible first | exact HI0.out | apply IsMk.alloc | apply IsMk.drewN | apply IsMk.drew | apply IsMk.set_0) | exact HI0.out)) (by (with_reducible repeat (first | apply Kd.R_alloc | apply Kd.R_drewN | apply Kd.R_drew)); exact HO_3.out) (by decide)) hk (fun _ h => h.2)) (fun _ h => h.1)); have n1_ := Aside0.mk (KeepBut.trans (by repeat (first | (with_reducible first | exact HK.out | apply KeepBut.set_ | apply keep_drewN | apply keep_drew | apply keep_alloc) | exact HK.out)) hk (.inl rfl)); have n2_ := Aside0.mk (hb); have n3_ := Aside0.mk (hi); clear HO_3; clear HK; clear HB; clear HI0; have HO_3 := n0_; have HK := n1_; have HB := n2_; have HI0 := n3_; clear n0_ n1_ n2_ n3_; (try clear hb); (try clear hb2); (try clear hk); (try clear hi)))
              (try simp only [← hl3_1])
              go_roundg k1
              case measure => have := HK1.out; omega
              case rel => exact ⟨(x3_1), (wrap64 (x14_1 + 1)), (t191), (by first | rfl | (simp; done) | (simp [*]; done)), H', ⟨by have := HK1.out; omega⟩, ⟨by (try simp only [hl3_1]); (with_reducible repeat (first | apply Kd.R_alloc | apply Kd.R_drewN | apply Kd.R_drew)); exact HO_3.out⟩, ⟨by repeat (first | (with_reducible first | exact HI0.out | apply IsMk.alloc | apply IsMk.drewN | apply IsMk.drew | apply IsMk.set_0) | exact HI0.out)⟩, ⟨by repeat (first | (with_reducible first | exact HK.out | apply KeepBut.set_ | apply keep_drewN | apply keep_drew | apply keep_alloc) | exact HK.out)⟩, ⟨by repeat (first | (with_reducible first | exact HB.out | apply below_alloc | apply pw_below_drewN | apply below_drew1 | refine below_set ?_ (IsMk.ge HI0.out)) | exact HB.out)⟩⟩
          · rw [if_neg c8] at H
            have c8b0 : decide (x14_1 < (y187.length : Int)) = false := decide_eq_false c8
            have c8b1 : decide (x14_1 < (x3_1.length : Int)) = false := by rw [← hl3_1]; exact c8b0
            clear c8
            replace H := Option.bind_eq_some_iff.mp H
            obtain ⟨⟨t193, t194⟩, A180, H⟩ := H
            replace H : ((varint_Put.f k1 ([] : List Int) (IntKind.u64.wrap (x1000_1))).bind fun t197 => (if t197.length + t193.length < 140737488355328 then (some ((t197 ++ t193), x1000_1)) else (none))) = some (r1, r2) := H
            have A18 := Aside0.mk A180
            clear A180
            replace H := Option.bind_eq_some_iff.mp H
            obtain ⟨t197, A190, H⟩ := H
            replace H : (if t197.length + t193.length < 140737488355328 then (some ((t197 ++ t193), x1000_1)) else (none)) = some (r1, r2) := H
            have A19 := Aside0.mk A190
            clear A190
            by_cases c20 : t197.length + t193.length < 140737488355328
            · rw [if_pos c20] at H
              have LMc20 := Aside0.mk c20
              clear c20
              obtain ⟨y200, hy200⟩ : ∃ y_ : List Int, y_ = (t197 ++ t193) := ⟨_, rfl⟩
              replace H : (some (y200, x1000_1)) = some (r1, r2) := by first | (rw [hy200]; with_reducible exact H) | (have H2_ := (Option.bind_some _ _).symm.trans H; rw [hy200]; with_reducible exact H2_) | (have H2_ := (Option.bind_some _ _).symm.trans H; with_reducible exact H2_) | with_reducible exact H | (rw [hy200]; exact H) | exact H
              have Ny200 := Aside0.mk hy200
              clear hy200
              simp only [Option.some.injEq, Prod.mk.injEq] at H
              obtain ⟨rfl, rfl⟩ := H
              go_wp2_with (first | ((with_reducible refine gate_callee (f := 24) rfl ?_); refine goesL_ (some 26) rfl rfl Try.func24 (by kernel_rfl) rfl #[.slice Ao7 x3_1.length co7, .int .i64 1] rfl (by (try simp only [List.map_toArray, List.map_cons, List.map_nil]); first | done | rfl | (simp only [List.length_drop, List.length_take]; rfl)) ?_; (with_reducible refine (runs_Encode.calls k1 _ _ x3_1 1 t193 t194 _ ?side1 ?side2 A18.out).mono ?_); (case side1 => repeat (first | exact (Kd.R_reads' HO_3.out).2.2 | (with_reducible refine Kd.C_alloc ?_ _) | (with_reducible refine Kd.C_drewN ?_ _) | (with_reducible refine Kd.C_drew ?_))); (case side2 => exact (Kd.R_reads' HO_3.out).2.1); rintro e w21 ⟨v195, rfl, ho0, hb⟩; refine ⟨_, rfl, ?_⟩; have n0_ := Aside0.mk (Kd.R_below (by (with_reducible repeat (first | apply Kd.R_alloc | apply Kd.R_drewN | apply Kd.R_drew)); exact HO_3.out) hb); have n1_ := Aside0.mk (Kd.R_lower ho0 (keep_size (w := w) (g := g) (row := none) (by repeat (first | (with_reducible first | exact HK.out | apply KeepBut.set_ | apply keep_drewN | apply keep_drew | apply keep_alloc) | exact HK.out)))); have n2_ := Aside0.mk (IsMk.below (by repeat (first | (with_reducible first | exact HI0.out | apply IsMk.alloc | apply IsMk.drewN | apply IsMk.drew | apply IsMk.set_0) | exact HI0.out)) hb); have n3_ := Aside0.mk (KeepBut.trans (by repeat (first | (with_reducible first | exact HK.out | apply KeepBut.set_ | apply keep_drewN | apply keep_drew | apply keep_alloc) | exact HK.out)) (KeepBut.of_below hb g none) (.inl rfl)); have n4_ := Aside0.mk (below_step (by repeat (first | (with_reducible first | exact HB.out | apply below_alloc | apply pw_below_drewN | apply below_drew1 | refine below_set ?_ (IsMk.ge HI0.out)) | exact HB.out)) hb); clear HO_3; clear HI0; clear HK; clear HB; have HO_3 := n0_; have HO196 := n1_; have HI0 := n2_; have HK := n3_; have HB := n4_; clear n0_ n1_ n2_ n3_ n4_; (try clear hb); (try clear hb2); (try clear hk); (try clear hi); (try clear ho0); obtain ⟨ASz22_1, cSz22_1, HGz22, hgz22, HSz22_1, -⟩ := HI0.out; have hcz22_0 := cellMk_0 HGz22; have hcz22_1 := cellMk_1 HGz22; have hfz22_0 := blk_frozen HGz22 0; clear HGz22 hgz22) | ((with_reducible refine gate_callee (f := 25) rfl ?_); refine goesL_ (some 34) rfl rfl Try.func25 (by kernel_rfl) rfl #[.slice none 0 0, .int .u64 (IntKind.u64.wrap (x1000_1))] rfl (by (try simp only [List.map_toArray, List.map_cons, List.map_nil]); first | done | rfl | (simp only [List.length_drop, List.length_take]; rfl)) ?_; (refine (varint_Put.calls k1 _ _ ([] : List Int) (IntKind.u64.wrap (x1000_1)) t197 _ ?side1 ?side2 A19.out).mono ?_); (case side1 => exact Kd.C_nil _ _); (case side2 => exact Nat.le_refl _); rintro e w23 ⟨v198, rfl, ho0, hb⟩; refine ⟨_, rfl, ?_⟩; have n0_ := Aside0.mk (Kd.R_below (by (with_reducible repeat (first | apply Kd.R_alloc | apply Kd.R_drewN | apply Kd.R_drew)); exact HO_3.out) hb); have n1_ := Aside0.mk (Kd.R_elder' (by (with_reducible repeat (first | apply Kd.R_alloc | apply Kd.R_drewN | apply Kd.R_drew)); exact HO196.out) (Kd.R_base ho0) hb); have n2_ := Aside0.mk (Kd.R_lower (Kd.R_new' ho0 (Kd.R_lt (by (with_reducible repeat (first | apply Kd.R_alloc | apply Kd.R_drewN | apply Kd.R_drew)); exact HO196.out))) (keep_size (w := w) (g := g) (row := none) (by repeat (first | (with_reducible first | exact HK.out | apply KeepBut.set_ | apply keep_drewN | apply keep_drew | apply keep_alloc) | exact HK.out)))); have n3_ := Aside0.mk (IsMk.below (by repeat (first | (with_reducible first | exact HI0.out | apply IsMk.alloc | apply IsMk.drewN | apply IsMk.drew | apply IsMk.set_0) | exact HI0.out)) hb); have n4_ := Aside0.mk (KeepBut.trans (by repeat (first | (with_reducible first | exact HK.out | apply KeepBut.set_ | apply keep_drewN | apply keep_drew | apply keep_alloc) | exact HK.out)) (KeepBut.of_below hb g none) (.inl rfl)); have n5_ := Aside0.mk (below_step (by repeat (first | (with_reducible first | exact HB.out | apply below_alloc | apply pw_below_drewN | apply below_drew1 | refine below_set ?_ (IsMk.ge HI0.out)) | exact HB.out)) hb); clear HO_3; clear HO196; clear HI0; clear HK; clear HB; have HO_3 := n0_; have HO196 := n1_; have HO199 := n2_; have HI0 := n3_; have HK := n4_; have HB := n5_; clear n0_ n1_ n2_ n3_ n4_ n5_; (try clear hb); (try clear hb2); (try clear hk); (try clear hi); (try clear ho0); obtain ⟨Ao25, co25, eo25⟩ := Kd.R_slice HO196.out; subst eo25) | ((with_reducible refine gate_builtin (b := .append) (xs := #[.tmp 34, .tmp 35]) rfl ?_); at_builtin; refine Kd.R_append_rows (Kd.int .u8) w.heap.size rfl (.tmp 34) (.tmp 35) 38 5 (.int .u8 0) 1 rfl Try.underlying38 info5 rfl (by decide) (by omega) v198 t197 t193 _ _ _ (fun k_ => some k_ ≠ (.slice Ao25 t193.length co25 : Value).ownBlock) (fun _ => False) rfl rfl ?aO ?aR (fun _ _ h => h) (fun _ h => h.elim) ?aF (Below.refl _ _) ?aS ?aL ?_; (case aR => repeat (first | exact (Kd.R_reads' HO196.out).2.2 | (with_reducible refine Kd.C_alloc ?_ _) | (with_reducible refine Kd.C_drewN ?_ _) | (with_reducible refine Kd.C_drew ?_))); (case aF => exact (fun k_ hk => Kd.fresh' (Kd.R_lt (by (with_reducible repeat (first | apply Kd.R_alloc | apply Kd.R_drewN | apply Kd.R_drew)); exact HO196.out)) k_ hk)); (case aO => exact (by (with_reducible repeat (first | apply Kd.R_alloc | apply Kd.R_drewN | apply Kd.R_drew)); exact Kd.R_mono HO199.out (fun _ hk => hk.2))); (case aS => exact (keep_size (w := w) (g := g) (row := none) (by repeat (first | (with_reducible first | exact HK.out | apply KeepBut.set_ | apply keep_drewN | apply keep_drew | apply keep_alloc) | exact HK.out)))); (case aL => have := LMc20.out; omega); intro v201 w24 ho hb hg hat; rw [← Ny200.out] at ho; have n0_ := Aside0.mk (Kd.R_over' (by (with_reducible repeat (first | apply Kd.R_alloc | apply Kd.R_drewN | apply Kd.R_drew)); exact HO_3.out) (Kd.R_typed (by (with_reducible repeat (first | apply Kd.R_alloc | apply Kd.R_drewN | apply Kd.R_drew)); exact HO199.out)) (by decide) hg); have n1_ := Aside0.mk (IsMk.grown (by repeat (first | (with_reducible first | exact HI0.out | apply IsMk.alloc | apply IsMk.drewN | apply IsMk.drew | apply IsMk.set_0) | exact HI0.out)) hg (IsMk.own_ne HI0.out HO199.out (by decide))); have n2_ := Aside0.mk (Kd.R_after (ok := (fun _ => True)) (by (with_reducible repeat (first | apply Kd.R_alloc | apply Kd.R_drewN | apply Kd.R_drew)); exact HO196.out) hg hat); have n3_ := Aside0.mk (below_weaken (by repeat (first | (with_reducible first | exact HB.out | apply below_alloc | apply pw_below_drewN | apply below_drew1 | refine below_set ?_ (IsMk.ge HI0.out)) | exact HB.out)) HL.out hb); have n4_ := Aside0.mk (KeepBut.trans (by repeat (first | (with_reducible first | exact HK.out | apply KeepBut.set_ | apply keep_drewN | apply keep_drew | apply keep_alloc) | exact HK.out)) (KeepBut.of_grown hg g) (Kd.R_base2 HO199.out)); have n5_ := Aside0.mk (ho); clear HO_3; clear HI0; clear HO196; clear HB; clear HK; clear HO199; have HO_3 := n0_; have HI0 := n1_; have HO196 := n2_; have HB := n3_; have HK := n4_; have HO202 := n5_; clear n0_ n1_ n2_ n3_ n4_ n5_; clear ho hb hg hat))
              go_ret
              exact ⟨_, by first | rfl | (simp [errW_none, errW_some] <;> rfl) | (simp [*, errW_none, errW_some] <;> rfl), by (with_reducible repeat (first | apply Kd.R_alloc | apply Kd.R_drewN | apply Kd.R_drew)); exact Kd.R_mono HO202.out (fun _ hk => trivial), by repeat (first | (with_reducible first | exact HI0.out | apply IsMk.alloc | apply IsMk.drewN | apply IsMk.drew | apply IsMk.set_0) | exact HI0.out), by repeat (first | (with_reducible first | exact HB.out | apply below_alloc | apply pw_below_drewN | apply below_drew1 | refine below_set ?_ (IsMk.ge HI0.out)) | exact HB.out), by repeat (first | (with_reducible first | exact HK.out | apply KeepBut.set_ | apply keep_drewN | apply keep_drew | apply keep_alloc) | exact HK.out)⟩
            · rw [if_neg c20] at H
              exact absurd H (by simp)
    · rw [if_neg c3] at H
      exact absurd H (by simp)
  · rw [if_neg c2] at H
    exact absurd H (by simp)
end Go.Proofs.Ytodadonpfcefbaa.Marks

namespace Go.Proofs.Ytodadonpfcefbaa.Marks
open Go.RowKit Go.Proofs.YtodadonpfcefbaaW.PrintWords Go.Proofs.YtodadonpfcefbaaW.PrintLast Go.Proofs.YtodadonpfcefbaaW.PrintMore Go.Proofs.Ytodadonpfcefbaa.QDelsReads
attribute [local go_sem] max2_int min2_int max_two min_two max_three min_three max_four min_four
set_option linter.unusedVariables false
set_option linter.unusedSimpArgs false
/-- A pointer to marks: so many rows, and these bytes, in two blocks. -/
def Mk (w : World) (b g : Nat) (N : Int) (xs : List Int) : Prop := b < g ∧ xs.length ≤ 9223372036854775807 ∧ w.heap[b]? = some (.cells (Array.mk (xs.map fun x => Value.int .u8 x)) 5 (0, 0)) ∧ w.heap[g]? = some (.cells #[.int .i64 N, .slice (some ⟨b, 0, none⟩) xs.length xs.length] 50 (0, 0))
theorem mk_cell0 {w : World} {g : Nat} {N : Int} {A : Option Addr} {n c : Nat} (h : w.heap[g]? = some (.cells #[.int .i64 N, .slice A n c] 50 (0, 0))) : w.cell? ⟨g, 0, none⟩ = some (.int .i64 N) := (blk_cell h 0).trans rfl
theorem mk_cell1 {w : World} {g : Nat} {N : Int} {A : Option Addr} {n c : Nat} (h : w.heap[g]? = some (.cells #[.int .i64 N, .slice A n c] 50 (0, 0))) : w.cell? ⟨g, 1, none⟩ = some (.slice A n c) := (blk_cell h 1).trans rfl
theorem row_of_blk {w : World} {b : Nat} {xs : List Int} (hl : xs.length ≤ 9223372036854775807) (h : w.heap[b]? = some (.cells (Array.mk (xs.map fun x => Value.int .u8 x)) 5 (0, 0))) : Kd.C (Kd.int .u8) w (some ⟨b, 0, none⟩) xs.length xs := by
  refine ⟨rfl, hl, fun _ => ⟨⟨b, 0, none⟩, rfl, fun j p hp => ⟨[.int .u8 p], rfl, rfl, fun i u hu => ?_⟩⟩⟩
  match i, hu with
  | 0, hu =>
    simp only [List.getElem?_cons_zero, Option.some.injEq] at hu
    subst hu
    have := blk_cell h j
    rw [show (Kd.int .u8).sz = 1 from rfl, Nat.mul_one, Nat.add_zero, show (⟨b, 0, none⟩ : Addr).add j = ⟨b, j, none⟩ from (by simp [Addr.add]; intro h; omega), this]
    simp [hp]
theorem Mk.below {w W : World} {b g : Nat} {N : Int} {xs : List Int} (h : Mk w b g N xs) (hb : Below w.heap.size w W) : Mk W b g N xs := ⟨h.1, h.2.1, blk_below h.2.2.1 hb, blk_below h.2.2.2 hb⟩
theorem Mk.grown {w W : World} {b g : Nat} {N : Int} {xs : List Int} {row : Option Nat} (h : Mk w b g N xs) (hk : w.grownBy W row) (n1 : some b ≠ row) (n2 : some g ≠ row) : Mk W b g N xs := ⟨h.1, h.2.1, blk_grown h.2.2.1 hk n1, blk_grown h.2.2.2 hk n2⟩
theorem Mk.lt {w : World} {b g : Nat} {N : Int} {xs : List Int} (h : Mk w b g N xs) : g < w.heap.size := blk_lt h.2.2.2
theorem map_set8 (xs : List Int) (i : Nat) (v : Int) : (Array.mk (xs.map fun x => Value.int .u8 x)).setIfInBounds i (.int .u8 v) = Array.mk ((xs.set i v).map fun x => Value.int .u8 x) := by
  simp [List.map_set]
theorem Mk.put {w : World} {b g : Nat} {N : Int} {xs : List Int} (h : Mk w b g N xs) (i : Nat) (v : Int) : Mk (w.setCell ⟨b, i, none⟩ (.int .u8 v)) b g N (xs.set i v) := by
  obtain ⟨h1, h2, h3, h4⟩ := h
  refine ⟨h1, by rw [List.length_set]; exact h2, ?_, ?_⟩
  · rw [blk_set h3 i (.int .u8 v), map_set8]
  · rw [List.length_set]
    exact blk_far h4 (Nat.ne_of_gt h1) _
theorem grown_set {w w1 : World} (h : Below w.heap.size w w1) (b j : Nat) (v : Value) : w.grownBy (w1.setCell ⟨b, j, none⟩ v) (some b) :=
  ⟨h.os, h.tape, h.output, by have := h.size; simpa [World.setCell] using this, fun k hk hne => (Below.heap_setCell _ _ _ _ (fun e => hne (by rw [e]))).trans (h.block k hk)⟩
theorem grown_then {w w1 w2 : World} {b : Nat} (h : w.grownBy w1 (some b)) (k : w1.grownBy w2 (some b)) : w.grownBy w2 (some b) :=
  ⟨k.os.trans h.os, k.tape.trans h.tape, k.output.trans h.output, Nat.le_trans h.size k.size, fun i hi hn => (k.block i (Nat.lt_of_lt_of_le hi h.size) hn).trans (h.block i hi hn)⟩
/-! ### the world below marks -/
def cutw (w : World) (n : Nat) : World := { w with heap := w.heap.extract 0 n }
theorem cutw_size {w : World} {n : Nat} (h : n ≤ w.heap.size) : (cutw w n).heap.size = n := by simp [cutw]; omega
theorem cutw_blk {w : World} {n k : Nat} (h : k < n) : (cutw w n).heap[k]? = w.heap[k]? := by
  simp only [cutw, Array.getElem?_extract, Nat.zero_add, Nat.sub_zero]
  by_cases hk : k < w.heap.size
  · rw [if_pos (by omega)]
  · rw [if_neg (by omega), Array.getElem?_eq_none (by omega)]
theorem cutw_below {w : World} {n : Nat} (h : n ≤ w.heap.size) : Below (cutw w n).heap.size (cutw w n) w :=
  ⟨rfl, rfl, rfl, by rw [cutw_size h]; exact h, fun k hk => by rw [cutw_size h] at hk; exact (cutw_blk hk).symm⟩
theorem Mk.is {w : World} {b g : Nat} {N : Int} {xs : List Int} (h : Mk w b g N xs) : IsMk b (cutw w g) w g N xs :=
  ⟨some ⟨b, 0, none⟩, xs.length, h.2.2.2, by rw [cutw_size (Nat.le_of_lt h.lt)]; exact Nat.le_refl _, row_of_blk h.2.1 ((cutw_blk h.1).trans h.2.2.1), rfl, rfl⟩
theorem Mk.back {w w' : World} {b g : Nat} {N : Int} {xs : List Int} (h : Mk w b g N xs) (hi : IsMk b (cutw w g) w' g N xs) (hb : Below (cutw w g).heap.size (cutw w g) w') (hk : KeepBut w w' g none) : Below w.heap.size w w' := by
  obtain ⟨A1, c1, hG, _, _, rfl, rfl⟩ := hi
  refine ⟨hb.os, hb.tape, hb.output, hk.1, fun k hk' => ?_⟩
  by_cases e : k = g
  · subst e
    rw [hG, h.2.2.2]
  · exact hk.2 k hk' e (by simp)
theorem has_calls {b g : Nat} {N : Int} {xs : List Int} {a : Int} {r : Bool} {w : World} (hM : Mk w b g N xs) (h : dels_Marks_Has.f N xs a = some (r, N)) :
    Calls Try.prog 10 #[.pointer (some ⟨g, 0, none⟩), .int .i64 a] w fun e w' => e = .returned (.bool r) ∧ Below w.heap.size w w' :=
  (Has_calls g N xs a r N (cutw w g) w hM.is (cutw_below (Nat.le_of_lt hM.lt)) h).mono fun e w' ⟨he, hi, hb, hk⟩ => ⟨he, hM.back hi hb hk⟩
theorem left_calls {b g : Nat} {N : Int} {xs : List Int} {k : Nat} {r : List Int} {w : World} (hM : Mk w b g N xs) (h : dels_Marks_Left.f k N xs = some (r, N)) :
    Calls Try.prog 13 #[.pointer (some ⟨g, 0, none⟩)] w fun e w' => ∃ v0_ : Value, e = .returned (v0_) ∧ Kd.R (Kd.int .i64) 3 w' w.heap.size (fun _ => True) v0_ r ∧ Below w.heap.size w w' :=
  (Left_calls k g N xs r N (cutw w g) w hM.is (cutw_below (Nat.le_of_lt hM.lt)) h).mono fun e w' ⟨v, he, ho, hi, hb, hk⟩ => ⟨v, he, ho, hM.back hi hb hk⟩
theorem encode_calls {b g : Nat} {N : Int} {xs : List Int} {k : Nat} {r : List Int} {w : World} (hM : Mk w b g N xs) (h : dels_Marks_Encode.f k N xs = some (r, N)) :
    Calls Try.prog 18 #[.pointer (some ⟨g, 0, none⟩)] w fun e w' => ∃ v0_ : Value, e = .returned (v0_) ∧ Kd.R (Kd.int .u8) 5 w' w.heap.size (fun _ => True) v0_ r ∧ Below w.heap.size w w' :=
  (Encode_calls k g N xs r N (cutw w g) w hM.is (cutw_below (Nat.le_of_lt hM.lt)) h).mono fun e w' ⟨v, he, ho, hi, hb, hk⟩ => ⟨v, he, ho, hM.back hi hb hk⟩
set_option maxHeartbeats 4000000 in
set_option maxRecDepth 100000 in
theorem has_drawn (b g : Nat) (s0_0 : Int) (s0_1 : List Int) (a1 : Int) (r1 : Bool) (r2 : Int) (w : World) (hM : Mk w b g s0_0 s0_1) (h : dels_Marks_Has.f s0_0 s0_1 a1 = some (r1, r2)) :
    Calls Try.prog 10 #[.pointer (some ⟨g, 0, none⟩), .int .i64 a1] w fun e w' => e = .returned (.bool r1) ∧ Drawn0 w w' := by
  obtain ⟨hbg, hl, hb, hG⟩ := hM
  have hC := row_of_blk hl hb
  generalize (⟨b, 0, none⟩ : Addr) = ad at hG hC
  have HB := Aside0.mk (Below.refl w.heap.size w)
  have H : (if a1 ≥ 0 then (if a1 < s0_0 then (if 0 ≤ (wrap64 (Int.tdiv a1 8)) then (if (wrap64 (Int.tdiv a1 8)) < (s0_1.length : Int) then (if 0 ≤ (Int.tmod a1 8) then (some (((Go.bits .and .u8 (shr .u8 (rd s0_1 (wrap64 (Int.tdiv a1 8))) (Int.tmod a1 8)) 1) == 1), s0_0)) else (none)) else (none)) else (none)) else (some (false, s0_0))) else (some (false, s0_0))) = some (r1, r2) := h
  clear h
  by_cases c3 : a1 ≥ 0
  · rw [if_pos c3] at H
    have c3b0 : decide (0 ≤ a1) = true := decide_eq_true c3
    clear c3
    by_cases c4 : a1 < s0_0
    · rw [if_pos c4] at H
      have c4b0 : decide (a1 < s0_0) = true := decide_eq_true c4
      clear c4
      obtain ⟨ji5, hji5⟩ : ∃ j_ : Int, (wrap64 (Int.tdiv a1 8)) = j_ := ⟨_, rfl⟩
      replace H : (if 0 ≤ (ji5) then (if (ji5) < (s0_1.length : Int) then (if 0 ≤ (Int.tmod a1 8) then (some (((Go.bits .and .u8 (shr .u8 (rd s0_1 (ji5)) (Int.tmod a1 8)) 1) == 1), s0_0)) else (none)) else (none)) else (none)) = some (r1, r2) := by first | (rw [hji5] at H; exact H) | (simp only [hji5] at H ⊢; exact H)
      have hji5w : (IntKind.i64.wrap (Int.tdiv a1 8)) = ji5 := (i64_w _).trans hji5
      by_cases c6 : 0 ≤ (ji5)
      · rw [if_pos c6] at H
        have c6b0 : decide (0 ≤ (ji5)) = true := decide_eq_true c6
        clear c6
        by_cases c7 : (ji5) < (s0_1.length : Int)
        · rw [if_pos c7] at H
          have c7b0 : decide ((ji5) < (s0_1.length : Int)) = true := decide_eq_true c7
          clear c7
          obtain ⟨ji8, hji8⟩ : ∃ j_ : Int, (Int.tmod a1 8) = j_ := ⟨_, rfl⟩
          replace H : (if 0 ≤ (ji8) then (some (((Go.bits .and .u8 (shr .u8 (rd s0_1 (ji5)) (ji8)) 1) == 1), s0_0)) else (none)) = some (r1, r2) := by first | (rw [hji8] at H; exact H) | (simp only [hji8] at H ⊢; exact H)
          by_cases c9 : 0 ≤ (ji8)
          · rw [if_pos c9] at H
            have c9b0 := eq_true c9
            have c9b1 : decide (0 ≤ (ji8)) = true := decide_eq_true c9
            clear c9
            obtain ⟨ji10, hji10⟩ : ∃ j_ : Int, (shr .u8 (rd s0_1 (ji5)) (ji8)) = j_ := ⟨_, rfl⟩
            replace H : (some (((Go.bits .and .u8 (ji10) 1) == 1), s0_0)) = some (r1, r2) := by first | (rw [hji10] at H; exact H) | (simp only [hji10] at H ⊢; exact H)
            have hji10_ : ((rd s0_1 (ji5)) / 2 ^ min (ji8).toNat 8) = ji10 := hji10
            have hji10z : (ji8) ≤ 8 → ((rd s0_1 (ji5)) / 2 ^ (ji8).toNat) = ji10 := shr_small hji10
            simp only [Option.some.injEq, Prod.mk.injEq] at H
            obtain ⟨rfl, rfl⟩ := H
            have HGz11 := hG
            have HSz11_1 := hC
            have hcz11_0 := mk_cell0 HGz11
            have hcz11_1 := mk_cell1 HGz11
            have hfz11_0 := blk_frozen HGz11 0
            clear HGz11
            have p101 : 0 ≤ ((ji5) : Int) := of_decide_eq_true (by first | (with_reducible assumption) | assumption)
            have q101 : (ji5) < (s0_1.length : Int) := of_decide_eq_true (by first | (with_reducible assumption) | assumption)
            obtain ⟨ad101, e101, hx101_0⟩ := Kd.at_int HSz11_1 (ji5) p101 q101
            cases e101
            replace hx101_0 := pw_cell_below HB.out hx101_0
            replace p101 := eq_true p101
            replace q101 := eq_true q101
            go_enter Try.func10, Try.ntmps10
            go_wp2
            go_ret
            exact ⟨by first | rfl | (simp [errW_none, errW_some] <;> rfl) | (simp only [← hji5, ← hji8, ← hji10]; first | rfl | (simp [errW_none, errW_some] <;> rfl)) | (simp [*, errW_none, errW_some] <;> rfl), by repeat (first | exact Drawn0.refl _ | apply Drawn0.step)⟩
          · rw [if_neg c9] at H
            exact absurd H (by simp)
        · rw [if_neg c7] at H
          exact absurd H (by simp)
      · rw [if_neg c6] at H
        exact absurd H (by simp)
    · rw [if_neg c4] at H
      have c4b0 : decide (a1 < s0_0) = false := decide_eq_false c4
      clear c4
      simp only [Option.some.injEq, Prod.mk.injEq] at H
      obtain ⟨rfl, rfl⟩ := H
      have HGz12 := hG
      have HSz12_1 := hC
      have hcz12_0 := mk_cell0 HGz12
      have hcz12_1 := mk_cell1 HGz12
      have hfz12_0 := blk_frozen HGz12 0
      clear HGz12
      go_enter Try.func10, Try.ntmps10
      go_wp2
      go_ret
      exact ⟨by first | rfl | (simp [errW_none, errW_some] <;> rfl) | (simp [*, errW_none, errW_some] <;> rfl), by repeat (first | exact Drawn0.refl _ | apply Drawn0.step)⟩
  · rw [if_neg c3] at H
    have c3b0 : decide (0 ≤ a1) = false := decide_eq_false c3
    clear c3
    simp only [Option.some.injEq, Prod.mk.injEq] at H
    obtain ⟨rfl, rfl⟩ := H
    go_enter Try.func10, Try.ntmps10
    go_wp2
    go_ret
    exact ⟨by first | rfl | (simp [errW_none, errW_some] <;> rfl) | (simp [*, errW_none, errW_some] <;> rfl), by repeat (first | exact Drawn0.refl _ | apply Drawn0.step)⟩
/-! ### (*Marks).Set -/
def markSet (N : Int) (xs : List Int) (a : Int) : Option (Bool × List Int) :=
  if a < 0 then some (false, xs) else if a ≥ N then some (false, xs) else (dels_Marks_Has.f N xs a).bind fun t => if t.1 = true then some (false, xs) else if 0 ≤ wrap64 (Int.tdiv a 8) then (if wrap64 (Int.tdiv a 8) < (xs.length : Int) then (if 0 ≤ Int.tmod a 8 then some (true, xs.set (wrap64 (Int.tdiv a 8)).toNat (Go.bits .or .u8 (rd xs (wrap64 (Int.tdiv a 8))) (2 ^ min (Int.tmod a 8).toNat 8 % 256))) else none) else none) else none
theorem has_same {N : Int} {xs : List Int} {a : Int} {t : Bool} {M : Int} (h : dels_Marks_Has.f N xs a = some (t, M)) : M = N := by
  unfold dels_Marks_Has.f at h
  repeat (first | (split at h) | (simp only [Option.some.injEq, Prod.mk.injEq] at h; exact h.2.symm) | (cases h))
set_option maxHeartbeats 4000000 in
set_option maxRecDepth 100000 in
theorem set_calls {b g : Nat} {N : Int} {xs : List Int} {a : Int} {r1 : Bool} {r2 : List Int} {w : World} (hM : Mk w b g N xs) (h : markSet N xs a = some (r1, r2)) :
    Calls Try.prog 11 #[.pointer (some ⟨g, 0, none⟩), .int .i64 a] w fun e w' => e = .returned (.bool r1) ∧ Mk w' b g N r2 ∧ w.grownBy w' (some b) := by
  unfold markSet at h
  have hcz0 := mk_cell0 hM.2.2.2
  have hcz1 := mk_cell1 hM.2.2.2
  by_cases c1 : a < 0
  · rw [if_pos c1] at h
    simp only [Option.some.injEq, Prod.mk.injEq] at h
    obtain ⟨rfl, rfl⟩ := h
    have c1b : decide (a < 0) = true := decide_eq_true c1
    go_enter Try.func11, Try.ntmps11
    go_wp2
    go_ret
    exact ⟨by first | rfl | (simp [*]; done), hM, World.grownBy.refl _ _⟩
  rw [if_neg c1] at h
  have c1b : decide (a < 0) = false := decide_eq_false c1
  by_cases c2 : a ≥ N
  · rw [if_pos c2] at h
    simp only [Option.some.injEq, Prod.mk.injEq] at h
    obtain ⟨rfl, rfl⟩ := h
    have c2b : decide (N ≤ a) = true := decide_eq_true c2
    go_enter Try.func11, Try.ntmps11
    go_wp2
    go_ret
    exact ⟨by first | rfl | (simp [*]; done), hM, World.grownBy.refl _ _⟩
  rw [if_neg c2] at h
  have c2b : decide (N ≤ a) = false := decide_eq_false c2
  obtain ⟨⟨t1, t2⟩, h1, h⟩ := Option.bind_eq_some_iff.1 h
  obtain rfl := has_same h1
  by_cases c3 : t1 = true
  · subst c3
    rw [if_pos rfl] at h
    simp only [Option.some.injEq, Prod.mk.injEq] at h
    obtain ⟨rfl, rfl⟩ := h
    go_enter Try.func11, Try.ntmps11
    go_wp2_with (first | (go_at_call 10; (with_reducible refine (has_calls hM h1).mono ?_); rintro e w1 ⟨rfl, hd⟩))
    go_ret
    exact ⟨by first | rfl | (simp [*]; done), hM.below hd, grown_of_below hd _⟩
  have c3' : t1 = false := by cases t1 <;> simp_all
  subst c3'
  rw [if_neg Bool.false_ne_true] at h
  obtain ⟨ji, hji⟩ : ∃ j_ : Int, wrap64 (Int.tdiv a 8) = j_ := ⟨_, rfl⟩
  have hjiw : IntKind.i64.wrap (Int.tdiv a 8) = ji := (i64_w _).trans hji
  rw [hji] at h
  by_cases c4 : 0 ≤ ji
  · rw [if_pos c4] at h
    by_cases c5 : ji < (xs.length : Int)
    · rw [if_pos c5] at h
      obtain ⟨jm, hjm⟩ : ∃ j_ : Int, Int.tmod a 8 = j_ := ⟨_, rfl⟩
      rw [hjm] at h
      by_cases c6 : 0 ≤ jm
      · rw [if_pos c6] at h
        simp only [Option.some.injEq, Prod.mk.injEq] at h
        obtain ⟨rfl, rfl⟩ := h
        have c6b : decide (0 ≤ jm) = true := decide_eq_true c6
        go_enter Try.func11, Try.ntmps11
        go_upto_region 3 with (first | (go_at_call 10; (with_reducible refine (has_calls hM h1).mono ?_); rintro e w1 ⟨rfl, hd⟩))
        have hM1 := Aside0.mk (hM.below hd)
        have hD := Aside0.mk hd
        clear hcz0 hcz1 hM hd
        have hcz0 := mk_cell0 hM1.out.2.2.2
        have hcz1 := mk_cell1 hM1.out.2.2.2
        obtain ⟨ad, e1, hx⟩ := Kd.at_int (row_of_blk hM1.out.2.1 hM1.out.2.2.1) ji c4 c5
        cases e1
        rw [show (⟨b, 0, none⟩ : Addr).add ji.toNat = ⟨b, ji.toNat, none⟩ from (by simp [Addr.add]; intro h; omega)] at hx
        have hf := blk_frozen hM1.out.2.2.1 ji.toNat
        replace c4 := eq_true c4
        replace c5 := eq_true c5
        refine wp_region_still_tail 13 (by kernel_rfl) (by kernel_rfl) ?_
        simp only [List.take_succ_cons, List.take_zero, List.drop_succ_cons, List.drop_zero]
        repeat still_step
        refine wpStill_nil ?_
        change wpList _ _ _ _ _ w1.drew
        have hx' : w1.drew.cell? ⟨b, ji.toNat, none⟩ = some (.int .u8 (rd xs ji)) := hx
        have hf' : w1.drew.frozen? ⟨b, ji.toNat, none⟩ = false := hf
        go_wp2
        go_ret
        exact ⟨by first | rfl | (simp [*]; done), hM1.out.put ji.toNat _, grown_set (w1 := w1.drew) hD.out.drew b ji.toNat _⟩
      · rw [if_neg c6] at h
        exact absurd h (by simp)
    · rw [if_neg c5] at h
      exact absurd h (by simp)
  · rw [if_neg c4] at h
    exact absurd h (by simp)
/-! ### New -/
theorem madeCells_u8 (m : Nat) : madeCells (Value.int .u8 0).cells (m * 1) = Array.mk ((List.replicate m (0 : Int)).map fun x => Value.int .u8 x) := by
  apply Array.ext
  · simp [size_madeCells]
  · intro i h1 h2
    simp [madeCells, Value.cells, Nat.mod_one]
theorem make_goes {P : Program} {ops : Array Oper} {Q : Exit → Act → World → Prop} {rest : List Oper} {o : Oper} {a : Act} {W : World} (hgd : o.guard = none) (t : TypeId) (x y : Operand) (ho : o.op = .makeSlice t x y) (m : Nat) (hx : a.eval x = .int .i64 (m : Int)) (hy : a.eval y = .int .i64 (m : Int)) (e : TypeId) (ht : P.underlying t = some (.slice e))
    (hinfo : (P.info? e).map (fun i => (i.zero, i.size, i.bytes)) = some (some (.int .u8 0), 1, 1)) (hm : m ≤ 281474976710656) (h : wpList P ops Q rest (a.put o.dst (.slice (some ⟨W.heap.size, 0, none⟩) m m)) (W.alloc (.cells (Array.mk ((List.replicate m (0 : Int)).map fun x => Value.int .u8 x)) e))) : wpList P ops Q (o :: rest) a W := by
  obtain ⟨i0, hi, hzz⟩ := Option.map_eq_some_iff.1 hinfo
  simp only [Prod.mk.injEq] at hzz
  obtain ⟨hz0, hz1, hz2⟩ := hzz
  have hr := run_make (P := P) W t e i0 _ ht hi hz0 .i64 .i64 (m : Int) (m : Int) (by omega) (by omega) (by rw [hz2]; omega) (by omega)
  simp only [Int.toNat_natCast] at hr
  rw [hz1, madeCells_u8] at hr
  refine Kd.event_run hgd ?_ h
  simp [execOp, ho, hx, hy, hr]
theorem newBad_calls (n : Int) (w : World) (h : n < 0 ∨ n > 1048576) : Calls Try.prog 9 #[.int .i64 n] w fun e w' => e = .returned (.tuple #[.pointer none, .int .i64 1]) ∧ Below w.heap.size w w' := by
  by_cases c : n < 0
  · have cb : decide (n < 0) = true := decide_eq_true c
    go_enter Try.func9, Try.ntmps9
    go_wp2
    go_ret2
    exact ⟨by first | rfl | (simp [*]; done), Below.refl _ _⟩
  · have c2 : n > 1048576 := by omega
    have cb : decide (n < 0) = false := decide_eq_false c
    have cb2 : decide (1048576 < n) = true := decide_eq_true c2
    go_enter Try.func9, Try.ntmps9
    go_wp2
    go_ret2
    exact ⟨by first | rfl | (simp [*]; done), Below.refl _ _⟩
theorem newOk_calls (n m : Nat) (w : World) (h1 : n ≤ 1048576) (hm : m = (n + 7) / 8) : Calls Try.prog 9 #[.int .i64 (n : Int)] w fun e w' => ∃ b g, e = .returned (.tuple #[.pointer (some ⟨g, 0, none⟩), .int .i64 0]) ∧ Mk w' b g n (List.replicate m 0) ∧ w.heap.size ≤ b ∧ Below w.heap.size w w' := by
  have cb : decide ((n : Int) < 0) = false := decide_eq_false (by omega)
  have cb2 : decide (1048576 < (n : Int)) = false := decide_eq_false (by omega)
  obtain ⟨s, hs⟩ : ∃ s : Int, IntKind.i64.wrap ((n : Int) + 7) = s := ⟨_, rfl⟩
  have hs' : s = (n : Int) + 7 := by rw [← hs, IntKind.wrap_i64]; omega
  have hq : IntKind.i64.wrap (Int.tdiv s 8) = (m : Int) := by
    rw [hs', Int.tdiv_eq_ediv_of_nonneg (by omega), IntKind.wrap_i64]; omega
  have hm2 : m ≤ 281474976710656 := by omega
  clear hs' hm h1
  go_enter Try.func9, Try.ntmps9
  go_wp2_with (first | ((with_reducible refine gate_dst (N := 14) rfl ?_); refine make_goes rfl 38 _ _ rfl m rfl rfl 5 Try.underlying38 info5 hm2 ?_))
  go_ret2
  refine ⟨w.heap.size, _, rfl, ?_, Nat.le_refl _, ?_⟩
  · have he : Array.mk ((List.replicate m (0 : Int)).map fun x => Value.int .u8 x) = Array.replicate m (Value.int .u8 0) := by simp
    refine ⟨by simp, by simp; omega, ?_, ?_⟩
    · rw [he]
      exact blk_alloc (blk_new w _) _
    · have := blk_new (w.alloc (.cells (Array.replicate m (Value.int .u8 0)) 5)) (.cells #[.int .i64 (n : Int), .slice (some ⟨w.heap.size, 0, none⟩) m m] 50)
      rw [show (w.alloc (.cells (Array.replicate m (Value.int .u8 0)) 5)).heap.size = w.heap.size + 1 from by simp] at this
      rw [List.length_replicate]
      exact this
  · exact below_alloc (below_alloc (Below.refl _ _) _) _
/-! ### Count -/
def CntS (w w' : World) : Prop := Below w.heap.size w w'
theorem CntS.all {w w' : World} {b g : Nat} {N : Int} {xs : List Int} (hM : Mk w b g N xs) (h : CntS w w') : w'.cell? ⟨g, 0, none⟩ = some (.int .i64 N) ∧ CntS w w' := ⟨mk_cell0 (hM.below h).2.2.2, h⟩
theorem CntS.step {w w1 w2 : World} (h : CntS w w1) (k : Below w1.heap.size w1 w2) : CntS w w2 := below_step h k
theorem CntS.drew {w w1 : World} (h : CntS w w1) : CntS w w1.drew := Below.drew h
theorem CntS.of {w w1 : World} {g : Nat} {N : Int} (h : w1.cell? ⟨g, 0, none⟩ = some (.int .i64 N) ∧ CntS w w1) : CntS w w1 := h.2
theorem CntS.self (w : World) : CntS w w := Below.refl _ _
set_option maxHeartbeats 4000000 in
set_option maxRecDepth 100000 in
theorem count_calls {b g : Nat} {N : Int} {xs : List Int} {k : Nat} {r : List Int} {c : Int} {w : World} (hM : Mk w b g N xs) (h : dels_Marks_Left.f k N xs = some (r, N)) (hc : IntKind.i64.wrap (N - (r.length : Int)) = c) :
    Calls Try.prog 12 #[.pointer (some ⟨g, 0, none⟩)] w fun e w' => e = .returned (.int .i64 c) ∧ Below w.heap.size w w' := by
  have hM0 := Aside0.mk hM
  clear hM
  go_enter Try.func12, Try.ntmps12
  go_upto_region 1 with (fail)
  go_region_held3 (fun w' => w'.cell? ⟨g, 0, none⟩ = some (.int .i64 N) ∧ CntS w w') (first | exact CntS.all hM0.out (CntS.step HS_ hb3) | exact CntS.all hM0.out (CntS.drew (by assumption)) | exact CntS.all hM0.out (CntS.drew (CntS.self _)) | (go_keep; done)) (first | (go_at_call 13; have HS_ := CntS.of (w := w) (g := g) (N := N) (by assumption); refine (left_calls (hM0.out.below HS_) h).mono ?_; rintro e w3 ⟨v, rfl, ho, hb3⟩; obtain ⟨A3, c3, e3⟩ := Kd.R_slice ho; subst e3))
  go_wp2
  go_ret
  exact ⟨rfl, CntS.step HS_ hb3⟩
/-! ### Or -/
set_option maxHeartbeats 4000000 in
set_option maxRecDepth 100000 in
theorem orNil_calls {p : Value} {w : World} : Calls Try.prog 14 #[p, .pointer none] w fun e w' => e = .returned (.int .i64 1) ∧ Below w.heap.size w w' := by
  go_enter Try.func14, Try.ntmps14
  go_upto_region 1 with (fail)
  go_quiet (fail)
  go_wp2
  go_ret
  exact ⟨rfl, by repeat (first | exact Below.refl _ _ | apply pw_below_drewN | apply Below.drew)⟩
set_option maxHeartbeats 4000000 in
set_option maxRecDepth 100000 in
theorem orBad_calls {b g b2 g2 : Nat} {N M : Int} {xs ys : List Int} {w : World} (hM : Mk w b g N xs) (hO : Mk w b2 g2 M ys) (hne : M ≠ N) : Calls Try.prog 14 #[.pointer (some ⟨g, 0, none⟩), .pointer (some ⟨g2, 0, none⟩)] w fun e w' => e = .returned (.int .i64 1) ∧ Below w.heap.size w w' := by
  have hcz0 := mk_cell0 hM.2.2.2
  have hcy0 := mk_cell0 hO.2.2.2
  have hd : decide (M = N) = false := decide_eq_false hne
  go_enter Try.func14, Try.ntmps14
  go_upto_region 1 with (fail)
  go_quiet (fail)
  go_wp2
  go_ret
  exact ⟨rfl, by repeat (first | exact Below.refl _ _ | apply pw_below_drewN | apply Below.drew)⟩
/-- How many of the bytes have been joined. -/
def orAt (xs ys : List Int) (i : Nat) : List Int := (List.zipWith (fun a c => Go.bits .or .u8 a c) xs ys).take i ++ xs.drop i
theorem orAt_len {xs ys : List Int} (h : xs.length = ys.length) (i : Nat) : (orAt xs ys i).length = xs.length := by
  simp [orAt]; omega
theorem orAt_get {xs ys : List Int} (h : xs.length = ys.length) {i : Nat} (hi : i < ys.length) : (orAt xs ys i)[i]? = xs[i]? := by
  unfold orAt
  rw [List.getElem?_append_right (by simp; omega)]
  simp only [List.length_take, List.length_zipWith, List.getElem?_drop]
  congr 1
  omega
theorem orAt_step {xs ys : List Int} (h : xs.length = ys.length) {i : Nat} (hi : i < ys.length) : (orAt xs ys i).set i (Go.bits .or .u8 (xs.getD i 0) (ys.getD i 0)) = orAt xs ys (i + 1) := by
  have hx : i < xs.length := by omega
  apply List.ext_getElem?
  intro j
  rw [List.getElem?_set]
  by_cases e : i = j
  · subst e
    rw [if_pos rfl, if_pos (by rw [orAt_len h]; omega)]
    unfold orAt
    rw [List.getElem?_append_left (by simp; omega), List.getElem?_take, if_pos (by omega)]
    simp [List.getElem?_zipWith, List.getElem?_eq_getElem hx, List.getElem?_eq_getElem hi, List.getD_eq_getElem?_getD]
  · rw [if_neg e]
    unfold orAt
    by_cases hj : j < i
    · rw [List.getElem?_append_left (by simp; omega), List.getElem?_append_left (by simp; omega), List.getElem?_take, List.getElem?_take, if_pos (by omega), if_pos (by omega)]
    · rw [List.getElem?_append_right (by simp; omega), List.getElem?_append_right (by simp; omega)]
      simp only [List.length_take, List.length_zipWith, List.getElem?_drop]
      congr 1
      omega
theorem blk_u8 {w : World} {b : Nat} {xs : List Int} (h : w.heap[b]? = some (.cells (Array.mk (xs.map fun x => Value.int .u8 x)) 5 (0, 0))) {i : Nat} {x : Int} (hx : xs[i]? = some x) : w.cell? ⟨b, i, none⟩ = some (.int .u8 x) := by
  rw [blk_cell h i]
  simp [hx]
set_option maxHeartbeats 4000000 in
set_option maxRecDepth 100000 in
theorem orOk_calls {b g b2 g2 : Nat} {N : Int} {xs ys : List Int} {w : World} (hM : Mk w b g N xs) (hO : Mk w b2 g2 N ys) (hl : xs.length = ys.length) (h1 : b ≠ b2) (h2 : b ≠ g2) : Calls Try.prog 14 #[.pointer (some ⟨g, 0, none⟩), .pointer (some ⟨g2, 0, none⟩)] w fun e w' => e = .returned (.int .i64 0) ∧ Mk w' b g N (orAt xs ys ys.length) ∧ w.grownBy w' (some b) := by
  have hcz0 := mk_cell0 hM.2.2.2
  have hcy0 := mk_cell0 hO.2.2.2
  have hcy1 := mk_cell1 hO.2.2.2
  have hd : decide (N = N) = true := decide_eq_true rfl
  have hM0 := Aside0.mk hM
  have hO0 := Aside0.mk hO
  clear hM hO
  go_enter Try.func14, Try.ntmps14
  go_upto_region 1 with (fail)
  go_quiet (fail)
  go_wp2
  try simp only [Act.put, List.setIfInBounds_toArray, List.set_cons_zero, List.set_cons_succ]
  go_loopg [25] (ys.length + 1) (fun kq v25 w' => ∃ i : Nat, v25 = .int .i64 (i : Int) ∧ Aside0 (i + kq = ys.length + 1 ∧ i ≤ ys.length) ∧ Aside0 (Mk w' b g N (orAt xs ys i)) ∧ Aside0 (Mk w' b2 g2 N ys) ∧ Aside0 (w.grownBy w' (some b)))
  case atStart => exact ⟨0, rfl, ⟨by omega, by omega⟩, ⟨by rw [show orAt xs ys 0 = xs from by simp [orAt]]; exact hM0.out⟩, ⟨hO0.out⟩, ⟨grown_of_below (by repeat (first | exact Below.refl _ _ | apply pw_below_drewN | apply Below.drew)) _⟩⟩
  case round =>
    clear hcz0 hcy0 hcy1
    obtain ⟨i, rfl, HI, HM, HO, HG⟩ := hrel
    cases gk with
    | zero =>
      have := HI.out
      omega
    | succ k1 =>
      obtain ⟨ji, hji⟩ : ∃ j : Int, (i : Int) = j := ⟨_, rfl⟩
      rw [hji]
      by_cases c : i < ys.length
      · have cb : decide (ji < (ys.length : Int)) = true := decide_eq_true (by omega)
        obtain ⟨x, hx⟩ : ∃ x, xs[i]? = some x := ⟨_, List.getElem?_eq_getElem (by omega)⟩
        obtain ⟨y, hy⟩ : ∃ y, ys[i]? = some y := ⟨_, List.getElem?_eq_getElem c⟩
        have hcx := blk_u8 HM.out.2.2.1 ((orAt_get hl c).trans hx)
        have hfx := blk_frozen HM.out.2.2.1 i
        have hcy := blk_u8 HO.out.2.2.1 hy
        have hcz1 := mk_cell1 HM.out.2.2.2
        rw [orAt_len hl, hl] at hcz1
        have hti : ji.toNat = i := by omega
        rw [← hti] at hcx hfx hcy
        have hput := Aside0.mk (HM.out.put i (Go.bits .or .u8 x y))
        have hst := orAt_step hl c
        rw [List.getD_eq_getElem?_getD, List.getD_eq_getElem?_getD, hx, hy] at hst
        rw [show (some x).getD 0 = x from rfl, show (some y).getD 0 = y from rfl] at hst
        rw [hst] at hput
        have HO2 := Aside0.mk (HO.out.grown (grown_set (Below.refl _ _) b i (.int .u8 (Go.bits .or .u8 x y))) (by intro e; injection e with e; exact h1 e.symm) (by intro e; injection e with e; exact h2 e.symm))
        have HG2 := Aside0.mk (grown_then HG.out (grown_set (Below.refl _ _) b i (.int .u8 (Go.bits .or .u8 x y))))
        rw [← hti] at hput HO2 HG2
        have p0 : (0 ≤ ji) = True := eq_true (by omega)
        have p1 : (ji < (ys.length : Int)) = True := eq_true (by omega)
        have hw' : IntKind.i64.wrap (ji + 1) = ((ji.toNat + 1 : Nat) : Int) := by
          have h3 := HM.out.2.1
          rw [orAt_len hl] at h3
          rw [IntKind.wrap_i64]; omega
        have hi3 : ji.toNat + 1 + k1 = ys.length + 1 ∧ ji.toNat + 1 ≤ ys.length := by have := HI.out; omega
        have hms : k1 < k1 + 1 := Nat.lt_succ_self _
        clear HM HO HG hst hti
        go_wp2
        go_roundg k1
        case measure => omega
        case rel => exact ⟨ji.toNat + 1, by first | rfl | (rw [hw']; done) | (simp [hw']; done) | (simp; omega), ⟨hi3⟩, hput, HO2, HG2⟩
      · have cb : decide (ji < (ys.length : Int)) = false := decide_eq_false (by omega)
        have hi : i = ys.length := by have := HI.out; omega
        subst hi
        go_wp2
        go_ret
        exact ⟨rfl, HM.out, HG.out⟩
end Go.Proofs.Ytodadonpfcefbaa.Marks

namespace Go.Proofs.Ytodadonpfcefbaa.Marks
open Go.RowKit Go.Proofs.YtodadonpfcefbaaW.PrintWords Go.Proofs.YtodadonpfcefbaaW.PrintLast Go.Proofs.YtodadonpfcefbaaW.PrintMore Go.Proofs.Ytodadonpfcefbaa.QDelsReads Go.Proofs.Ytodadonpfcefbaa.Base
set_option linter.unusedVariables false
set_option linter.unusedSimpArgs false
/-- These bytes hold these marks. -/
structure Good (l : List Bool) (A : List Nat) : Prop where
  small : l.length ≤ 1048576
  len : A.length = (l.length + 7) / 8
  lt : ∀ x ∈ A, x < 256
  bit : ∀ p, p < l.length → l.getD p false = (A.getD (p / 8) 0).testBit (p % 8)
theorem getD_lt8 {A : List Nat} (hA : ∀ x ∈ A, x < 256) (i : Nat) : A.getD i 0 < 2 ^ 8 := by
  rw [List.getD_eq_getElem?_getD]
  cases h : A[i]? with
  | none => simp
  | some x => exact hA x (List.mem_of_getElem? h)
theorem ask_bit {A : List Nat} (hA : ∀ x ∈ A, x < 256) (p : Nat) : Go.bits .and .u8 (shr .u8 (rd (ints A) ((p / 8 : Nat) : Int)) ((p % 8 : Nat) : Int)) 1 = (((A.getD (p / 8) 0).testBit (p % 8)).toNat : Int) := by
  have h1 : A.getD (p / 8) 0 < 2 ^ 8 := getD_lt8 hA _
  have h2 : p % 8 < 8 := Nat.mod_lt _ (by decide)
  rw [rd_ints, shr_nat (show p % 8 ≤ IntKind.u8.bits from (show p % 8 ≤ 8 by omega)), show (1 : Int) = ((1 : Nat) : Int) from rfl, and8 (Nat.lt_of_le_of_lt (Nat.shiftRight_le _ _) h1) (by decide), bit_or_one]
/-- Is the row marked? -/
def hasL (l : List Bool) (a : Int) : Bool := decide (0 ≤ a) && l.getD a.toNat false
theorem getD_out {l : List Bool} {p : Nat} (h : l.length ≤ p) : l.getD p false = false := by
  rw [List.getD_eq_getElem?_getD, List.getElem?_eq_none h]; rfl
theorem has_f {l : List Bool} {A : List Nat} (h : Good l A) (a : Int) : dels_Marks_Has.f l.length (ints A) a = some (hasL l a, (l.length : Int)) := by
  unfold dels_Marks_Has.f hasL
  by_cases c1 : a ≥ 0
  · rw [if_pos c1]
    obtain ⟨p, rfl⟩ := Int.eq_ofNat_of_zero_le c1
    by_cases c2 : (p : Int) < (l.length : Int)
    · have hp : p < l.length := by omega
      have hs := h.small
      rw [if_pos c2, div8 (by omega), if_pos (by omega), if_pos (by rw [ints_length, h.len]; omega), mod8, if_pos (by omega), ask_bit h.lt, Int.toNat_natCast, h.bit p hp, decide_eq_true c1]
      cases (A.getD (p / 8) 0).testBit (p % 8) <;> rfl
    · rw [if_neg c2, Int.toNat_natCast, getD_out (by omega), Bool.and_false]
  · rw [if_neg c1, decide_eq_false c1, Bool.false_and]
/-- With the row marked. -/
def setL (l : List Bool) (a : Int) : List Bool := if 0 ≤ a then l.set a.toNat true else l
theorem setL_length (l : List Bool) (a : Int) : (setL l a).length = l.length := by unfold setL; split <;> simp
/-- Is it a row that is not yet marked? -/
def freshL (l : List Bool) (a : Int) : Bool := decide (0 ≤ a) && decide (a.toNat < l.length) && !l.getD a.toNat false
theorem set_same {l : List Bool} {p : Nat} (h : l.length ≤ p ∨ l.getD p false = true) : l.set p true = l := by
  apply List.ext_getElem?
  intro j
  rw [List.getElem?_set]
  by_cases e : p = j
  · subst e
    rw [if_pos rfl]
    by_cases hp : p < l.length
    · rw [if_pos hp]
      rcases h with h | h
      · omega
      · rw [List.getD_eq_getElem?_getD, List.getElem?_eq_getElem hp] at h
        rw [List.getElem?_eq_getElem hp]
        exact congrArg some h.symm
    · rw [if_neg hp, List.getElem?_eq_none (by omega)]
  · rw [if_neg e]
theorem or_bit {a r : Nat} (ha : a < 256) (hr : r < 8) : Go.bits .or .u8 (a : Int) (2 ^ min ((r : Nat) : Int).toNat 8 % 256) = ((a ||| 2 ^ r : Nat) : Int) := by
  have e : ((2 : Int) ^ min ((r : Nat) : Int).toNat 8 % 256) = ((2 ^ r : Nat) : Int) := by
    have : r = 0 ∨ r = 1 ∨ r = 2 ∨ r = 3 ∨ r = 4 ∨ r = 5 ∨ r = 6 ∨ r = 7 := by omega
    rcases this with h | h | h | h | h | h | h | h <;> subst h <;> rfl
  have h2 : 2 ^ r < 2 ^ 8 := Nat.pow_lt_pow_right (by decide) hr
  rw [e, or8 ha h2]
theorem or_lt {a r : Nat} (ha : a < 256) (hr : r < 8) : a ||| 2 ^ r < 256 := by
  have h2 : 2 ^ r < 2 ^ 8 := Nat.pow_lt_pow_right (by decide) hr
  exact Nat.or_lt_two_pow (n := 8) ha h2
theorem good_set {l : List Bool} {A : List Nat} (h : Good l A) {p : Nat} (hp : p < l.length) : Good (l.set p true) (A.set (p / 8) (A.getD (p / 8) 0 ||| 2 ^ (p % 8))) := by
  have hq : p / 8 < A.length := by rw [h.len]; omega
  refine ⟨by rw [List.length_set]; exact h.small, by rw [List.length_set, List.length_set]; exact h.len, ?_, ?_⟩
  · intro x hx
    rcases List.mem_or_eq_of_mem_set hx with h1 | h1
    · exact h.lt x h1
    · rw [h1]
      exact or_lt (getD_lt8 h.lt _) (Nat.mod_lt _ (by decide))
  · intro j hj
    rw [List.length_set] at hj
    have hb := h.bit j hj
    rw [List.getD_eq_getElem?_getD, List.getD_eq_getElem?_getD, List.getElem?_set, List.getElem?_set]
    by_cases e : p = j
    · subst e
      rw [if_pos rfl, if_pos hp, if_pos rfl, if_pos hq]
      simp only [Option.getD_some, Nat.testBit_or, Nat.testBit_two_pow, decide_true, Bool.or_true]
    · rw [if_neg e, ← List.getD_eq_getElem?_getD, hb]
      by_cases e2 : p / 8 = j / 8
      · rw [if_pos e2, if_pos hq, e2]
        have hne : ¬ p % 8 = j % 8 := by omega
        simp only [Option.getD_some, Nat.testBit_or, Nat.testBit_two_pow, decide_eq_false hne, Bool.or_false]
      · rw [if_neg e2, ← List.getD_eq_getElem?_getD]
theorem set_f {l : List Bool} {A : List Nat} (h : Good l A) (a : Int) : ∃ A', markSet l.length (ints A) a = some (freshL l a, ints A') ∧ Good (setL l a) A' := by
  unfold markSet freshL setL
  by_cases c1 : a < 0
  · rw [if_pos c1, decide_eq_false (by omega), if_neg (by omega)]
    exact ⟨A, rfl, h⟩
  · have c0 : 0 ≤ a := by omega
    obtain ⟨p, rfl⟩ := Int.eq_ofNat_of_zero_le c0
    rw [if_neg c1, decide_eq_true c0, if_pos c0, Int.toNat_natCast]
    by_cases c2 : (p : Int) ≥ (l.length : Int)
    · rw [if_pos c2, decide_eq_false (by omega), set_same (.inl (by omega))]
      exact ⟨A, rfl, h⟩
    · have hp : p < l.length := by omega
      have hs := h.small
      rw [if_neg c2, has_f h, Option.bind_some, decide_eq_true hp]
      have e : hasL l (p : Int) = l.getD p false := by simp [hasL]
      cases hb : l.getD p false with
      | true =>
        rw [hb] at e
        rw [if_pos e, set_same (.inr hb)]
        exact ⟨A, rfl, h⟩
      | false =>
        rw [hb] at e
        rw [if_neg (by rw [e]; exact Bool.false_ne_true), div8 (by omega), if_pos (by omega), if_pos (by rw [ints_length, h.len]; omega), mod8, if_pos (by omega), rd_ints, or_bit (getD_lt8 h.lt _) (Nat.mod_lt _ (by decide)), Int.toNat_natCast, ints_set]
        exact ⟨_, rfl, good_set h hp⟩
/-- The rows that are not marked, counted from i. -/
def leftFrom : Nat → List Bool → List Int
  | _, [] => []
  | i, true :: r => leftFrom (i + 1) r
  | i, false :: r => (i : Int) :: leftFrom (i + 1) r
def leftL (l : List Bool) : List Int := leftFrom 0 l
theorem left_l0 {l : List Bool} {A : List Nat} (h : Good l A) (d : Nat) : ∀ i k (acc : List Int), l.length - i = d → i ≤ l.length → d < k → acc.length ≤ i → dels_Marks_Left.l0 k acc (l.length : Int) (i : Int) (l.length : Int) (ints A) = some (acc ++ leftFrom i (l.drop i), (l.length : Int)) := by
  have hs := h.small
  induction d with
  | zero =>
    intro i k acc h1 h2 h3 h4
    cases k with
    | zero => omega
    | succ k =>
      rw [dels_Marks_Left.l0, if_neg (by omega), List.drop_eq_nil_of_le (by omega), leftFrom, List.append_nil]
  | succ d ih =>
    intro i k acc h1 h2 h3 h4
    cases k with
    | zero => omega
    | succ k =>
      have hi : i < l.length := by omega
      have hsu := succ64 (j := i) (by omega)
      have e : hasL l (i : Int) = l[i] := by simp [hasL, hi]
      rw [dels_Marks_Left.l0, if_pos (by omega), has_f h, Option.bind_some, e, hsu, List.drop_eq_getElem_cons hi]
      cases l[i] with
      | true =>
        rw [if_pos rfl, ih (i + 1) k acc (by omega) (by omega) (by omega) (by omega), leftFrom]
      | false =>
        rw [if_neg Bool.false_ne_true, if_pos (by omega), ih (i + 1) k _ (by omega) (by omega) (by omega) (by simp; omega), leftFrom, List.append_assoc]
        rfl
theorem left_f {l : List Bool} {A : List Nat} (h : Good l A) : dels_Marks_Left.f (l.length + 1) (l.length : Int) (ints A) = some (leftL l, (l.length : Int)) := by
  have := left_l0 h l.length 0 (l.length + 1) [] (by omega) (by omega) (by omega) (by simp)
  simpa [dels_Marks_Left.f, leftL] using this
theorem leftFrom_length (l : List Bool) : ∀ i, (leftFrom i l).length + l.count true = l.length := by
  induction l with
  | nil => intro i; rfl
  | cons b r ih =>
    intro i
    have := ih (i + 1)
    cases b <;> simp [leftFrom] <;> omega
/-- How many rows are marked. -/
def cntL (l : List Bool) : Int := (l.count true : Int)
theorem count_f {l : List Bool} (h : l.length ≤ 1048576) : IntKind.i64.wrap ((l.length : Int) - ((leftL l).length : Int)) = cntL l := by
  have := leftFrom_length l 0
  rw [IntKind.wrap_i64, leftL, cntL]
  omega
theorem good_new {n : Nat} (h : n ≤ 1048576) : Good (List.replicate n false) (List.replicate ((n + 7) / 8) 0) := by
  refine ⟨by simpa using h, by simp, fun x hx => ?_, fun p hp => ?_⟩
  · rw [(List.mem_replicate.1 hx).2]; decide
  · rw [List.getD_eq_getElem?_getD, List.getD_eq_getElem?_getD, List.getElem?_replicate, List.getElem?_replicate]
    split <;> split <;> simp
/-- Joined. -/
def orL (l o : List Bool) : List Bool := List.zipWith (fun a c => a || c) l o
theorem or_ints {A B : List Nat} (hA : ∀ x ∈ A, x < 256) (hB : ∀ x ∈ B, x < 256) : List.zipWith (fun a c => Go.bits .or .u8 a c) (ints A) (ints B) = ints (List.zipWith (fun a c => a ||| c) A B) := by
  unfold ints
  rw [List.zipWith_map, List.map_zipWith]
  apply List.ext_getElem?
  intro i
  rw [List.getElem?_zipWith, List.getElem?_zipWith]
  cases ha : A[i]? with
  | none => rfl
  | some a =>
    cases hb : B[i]? with
    | none => rfl
    | some b => exact congrArg some (or8 (hA a (List.mem_of_getElem? ha)) (hB b (List.mem_of_getElem? hb)))
theorem good_or {l o : List Bool} {A B : List Nat} (h : Good l A) (k : Good o B) (hl : l.length = o.length) : Good (orL l o) (List.zipWith (fun a c => a ||| c) A B) := by
  have hAB : A.length = B.length := by rw [h.len, k.len, hl]
  refine ⟨by simp [orL, hl]; exact k.small, by simp [orL, hl, hAB]; exact k.len, fun x hx => ?_, fun p hp => ?_⟩
  · obtain ⟨i, hi⟩ := List.mem_iff_getElem?.1 hx
    rw [List.getElem?_zipWith] at hi
    cases ha : A[i]? with
    | none => simp [ha] at hi
    | some a =>
      cases hb : B[i]? with
      | none => simp [ha, hb] at hi
      | some b =>
        simp only [ha, hb, Option.some.injEq] at hi
        subst hi
        exact Nat.or_lt_two_pow (n := 8) (h.lt a (List.mem_of_getElem? ha)) (k.lt b (List.mem_of_getElem? hb))
  · have hp1 : p < l.length := by simp [orL] at hp; omega
    have hp2 : p < o.length := by omega
    have q1 : p / 8 < A.length := by rw [h.len]; omega
    have q2 : p / 8 < B.length := by omega
    have e1 := h.bit p hp1
    have e2 := k.bit p hp2
    simp only [List.getD_eq_getElem?_getD, orL, List.getElem?_zipWith, List.getElem?_eq_getElem hp1, List.getElem?_eq_getElem hp2, List.getElem?_eq_getElem q1, List.getElem?_eq_getElem q2, Option.getD_some] at e1 e2 ⊢
    rw [e1, e2, Nat.testBit_or]
/-! ### marks behind a pointer, as a list -/
def MkL (w : World) (b g : Nat) (l : List Bool) : Prop := ∃ A, Mk w b g l.length (ints A) ∧ Good l A
theorem MkL.below {w W : World} {b g : Nat} {l : List Bool} (h : MkL w b g l) (hb : Below w.heap.size w W) : MkL W b g l := by
  obtain ⟨A, h1, h2⟩ := h
  exact ⟨A, h1.below hb, h2⟩
theorem MkL.drewN {w : World} {b g : Nat} {l : List Bool} (h : MkL w b g l) (n : Nat) : MkL (w.drewN n) b g l := h
theorem MkL.drew {w : World} {b g : Nat} {l : List Bool} (h : MkL w b g l) : MkL w.drew b g l := h
theorem MkL.grown {w W : World} {b g : Nat} {l : List Bool} {row : Option Nat} (h : MkL w b g l) (hk : w.grownBy W row) (n1 : some b ≠ row) (n2 : some g ≠ row) : MkL W b g l := by
  obtain ⟨A, h1, h2⟩ := h
  exact ⟨A, h1.grown hk n1 n2, h2⟩
theorem MkL.lt {w : World} {b g : Nat} {l : List Bool} (h : MkL w b g l) : b < g ∧ g < w.heap.size := by
  obtain ⟨A, h1, h2⟩ := h
  exact ⟨h1.1, h1.lt⟩
theorem MkL.small {w : World} {b g : Nat} {l : List Bool} (h : MkL w b g l) : l.length ≤ 1048576 := by
  obtain ⟨A, h1, h2⟩ := h
  exact h2.small
theorem hasC {w : World} {b g : Nat} {l : List Bool} (h : MkL w b g l) (a : Int) : Calls Try.prog 10 #[.pointer (some ⟨g, 0, none⟩), .int .i64 a] w fun e w' => e = .returned (.bool (hasL l a)) ∧ Below w.heap.size w w' := by
  obtain ⟨A, h1, h2⟩ := h
  exact has_calls h1 (has_f h2 a)
theorem hasR {w : World} {b g : Nat} {l : List Bool} (h : MkL w b g l) (a : Int) {r : Bool} (hr : hasL l a = r) : Calls Try.prog 10 #[.pointer (some ⟨g, 0, none⟩), .int .i64 a] w fun e w' => e = .returned (.bool r) ∧ Below w.heap.size w w' := by
  subst hr
  exact hasC h a
theorem hasQ {w : World} {b g : Nat} {l : List Bool} (h : MkL w b g l) (n : Nat) (a : Int) {r : Bool} (hr : hasL l a = r) : Calls Try.prog 10 #[.pointer (some ⟨g, 0, none⟩), .int .i64 a] (w.drewN n) fun e w'' => e = .returned (.bool r) ∧ ∃ m, w'' = w.drewN m := by
  subst hr
  obtain ⟨A, h1, h2⟩ := h
  exact Calls.quiet_of ((has_drawn b g _ _ a _ _ (w.drewN n) h1 (has_f h2 a)).mono fun e w' ⟨he, hd⟩ => ⟨he, hd.out⟩)
theorem setC {w : World} {b g : Nat} {l : List Bool} (h : MkL w b g l) (a : Int) : Calls Try.prog 11 #[.pointer (some ⟨g, 0, none⟩), .int .i64 a] w fun e w' => e = .returned (.bool (freshL l a)) ∧ MkL w' b g (setL l a) ∧ w.grownBy w' (some b) := by
  obtain ⟨A, h1, h2⟩ := h
  obtain ⟨A', h3, h4⟩ := set_f h2 a
  refine (set_calls h1 h3).mono fun e w' ⟨he, hm, hg⟩ => ⟨he, ⟨A', ?_, h4⟩, hg⟩
  rw [setL_length]
  exact hm
theorem setR {w : World} {b g : Nat} {l l2 : List Bool} (h : MkL w b g l) (a : Int) {r : Bool} (hr : freshL l a = r) (h2 : setL l a = l2) : Calls Try.prog 11 #[.pointer (some ⟨g, 0, none⟩), .int .i64 a] w fun e w' => e = .returned (.bool r) ∧ MkL w' b g l2 ∧ w.grownBy w' (some b) := by
  subst hr
  subst h2
  exact setC h a
theorem leftC {w : World} {b g : Nat} {l : List Bool} (h : MkL w b g l) : Calls Try.prog 13 #[.pointer (some ⟨g, 0, none⟩)] w fun e w' => ∃ v0_ : Value, e = .returned (v0_) ∧ Kd.R (Kd.int .i64) 3 w' w.heap.size (fun _ => True) v0_ (leftL l) ∧ Below w.heap.size w w' := by
  obtain ⟨A, h1, h2⟩ := h
  exact left_calls h1 (left_f h2)
theorem countC {w : World} {b g : Nat} {l : List Bool} (h : MkL w b g l) : Calls Try.prog 12 #[.pointer (some ⟨g, 0, none⟩)] w fun e w' => e = .returned (.int .i64 (cntL l)) ∧ Below w.heap.size w w' := by
  obtain ⟨A, h1, h2⟩ := h
  exact count_calls h1 (left_f h2) (count_f h2.small)
theorem countR {w : World} {b g : Nat} {l : List Bool} (h : MkL w b g l) {n : Int} (hn : cntL l = n) : Calls Try.prog 12 #[.pointer (some ⟨g, 0, none⟩)] w fun e w' => e = .returned (.int .i64 n) ∧ Below w.heap.size w w' := by
  subst hn
  exact countC h
theorem newBadC (n : Int) (w : World) (h : n < 0 ∨ n > 1048576) : Calls Try.prog 9 #[.int .i64 n] w fun e w' => e = .returned (.tuple #[.pointer none, .int .i64 1]) ∧ Below w.heap.size w w' := newBad_calls n w h
theorem newC (n : Nat) (w : World) (h1 : n ≤ 1048576) : Calls Try.prog 9 #[.int .i64 (n : Int)] w fun e w' => ∃ b g, e = .returned (.tuple #[.pointer (some ⟨g, 0, none⟩), .int .i64 0]) ∧ MkL w' b g (List.replicate n false) ∧ w.heap.size ≤ b ∧ Below w.heap.size w w' := by
  refine (newOk_calls n ((n + 7) / 8) w h1 rfl).mono fun e w' ⟨b, g, he, hm, hb, hB⟩ => ⟨b, g, he, ⟨List.replicate ((n + 7) / 8) 0, ?_, good_new h1⟩, hb, hB⟩
  have e2 : (List.replicate ((n + 7) / 8) (0 : Int)) = ints (List.replicate ((n + 7) / 8) 0) := ints_replicate _ 0
  rw [List.length_replicate, ← e2]
  exact hm
theorem orNilC {p : Value} {w : World} : Calls Try.prog 14 #[p, .pointer none] w fun e w' => e = .returned (.int .i64 1) ∧ Below w.heap.size w w' := orNil_calls
theorem orBadC {w : World} {b g b2 g2 : Nat} {l o : List Bool} (h : MkL w b g l) (k : MkL w b2 g2 o) (hne : o.length ≠ l.length) : Calls Try.prog 14 #[.pointer (some ⟨g, 0, none⟩), .pointer (some ⟨g2, 0, none⟩)] w fun e w' => e = .returned (.int .i64 1) ∧ Below w.heap.size w w' := by
  obtain ⟨A, h1, h2⟩ := h
  obtain ⟨B, k1, k2⟩ := k
  exact orBad_calls h1 k1 (by omega)
theorem orC {w : World} {b g b2 g2 : Nat} {l o : List Bool} (h : MkL w b g l) (k : MkL w b2 g2 o) (hl : l.length = o.length) (n1 : b ≠ b2) (n2 : b ≠ g2) : Calls Try.prog 14 #[.pointer (some ⟨g, 0, none⟩), .pointer (some ⟨g2, 0, none⟩)] w fun e w' => e = .returned (.int .i64 0) ∧ MkL w' b g (orL l o) ∧ w.grownBy w' (some b) := by
  obtain ⟨A, h1, h2⟩ := h
  obtain ⟨B, k1, k2⟩ := k
  have hAB : A.length = B.length := by rw [h2.len, k2.len, hl]
  rw [← hl] at k1
  refine (orOk_calls h1 k1 (by rw [ints_length, ints_length, hAB]) n1 n2).mono fun e w' ⟨he, hm, hg⟩ => ⟨he, ⟨_, ?_, good_or h2 k2 hl⟩, hg⟩
  have e1 : orAt (ints A) (ints B) (ints B).length = ints (List.zipWith (fun a c => a ||| c) A B) := by
    rw [orAt, or_ints h2.lt k2.lt, List.take_of_length_le (by simp [ints_length]; omega), List.drop_eq_nil_of_le (by simp [ints_length]; omega), List.append_nil]
  rw [e1] at hm
  have e2 : (orL l o).length = l.length := by simp [orL, hl]
  rw [e2]
  exact hm
set_option maxHeartbeats 4000000 in
set_option maxRecDepth 100000 in
theorem rowsC {w : World} {b g : Nat} {l : List Bool} (h : MkL w b g l) : Calls Try.prog 22 #[.pointer (some ⟨g, 0, none⟩)] w fun e w' => e = .returned (.int .i64 (l.length : Int)) ∧ Below w.heap.size w w' := by
  obtain ⟨A, h1, h2⟩ := h
  have hcz0 := mk_cell0 h1.2.2.2
  go_enter Try.func22, Try.ntmps22
  go_wp2
  go_ret
  exact ⟨rfl, by repeat (first | exact Below.refl _ _ | apply pw_below_drewN | apply Below.drew)⟩
end Go.Proofs.Ytodadonpfcefbaa.Marks
