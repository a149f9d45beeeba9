/- A change of a directory, and of the disk: the walks of do and turn. -/
import Derived.Test.YtoninmgglcepmaaD3
namespace Go.Proofs.Ytoninmgglcepmaa.Dk
open Reg Go.RowKit Go.ChangeMaps Go.Proofs.YtoninmgglcepmaaW.PrintWords Go.Proofs.YtoninmgglcepmaaW.PrintLast Go.Proofs.YtoninmgglcepmaaW.PrintMore Mp
attribute [local go_sem] max2_int min2_int max_two min_two max_three min_three max_four min_four
set_option linter.unusedVariables false
set_option linter.unusedSimpArgs false
theorem ptrs_put (l : List (ByteArray × Nat)) (s : ByteArray) (g : Nat) : putM (ptrs l) s (pv (some g)) = ptrs (putM l s g) := by
  induction l with
  | nil => rfl
  | cons p l ih =>
    simp only [ptrs, List.map_cons, putM] at ih ⊢
    split
    · rfl
    · rw [List.map_cons, ih]
theorem ptrs_del (l : List (ByteArray × Nat)) (s : ByteArray) : delM (ptrs l) s = ptrs (delM l s) := by
  induction l with
  | nil => rfl
  | cons p l ih =>
    simp only [ptrs, List.map_cons, delM] at ih ⊢
    split
    · rfl
    · rw [List.map_cons, ih]
/-- A change done; none: it is none that may be. -/
def doM (l : List (ByteArray × Nat)) (c : Chg) : Option (List (ByteArray × Nat)) :=
  if c.kind = 0 then c.f.map (fun g => putM l c.name g)
  else if c.kind = 1 then (getM l c.name).map (fun g => putM (delM l c.name) c.dst g)
  else if c.kind = 2 then some (delM l c.name) else none
def chgO (c : Chg) : Obj := .cells #[.int .i64 c.kind, .string c.name, .string c.dst, pv c.f] 66
theorem grown_alloc_block {w : World} {b : Nat} {o o' : Obj} (hb : b < w.heap.size) : w.grownBy (setBlock (w.alloc o) b o') (some b) :=
  grown_then ((grown_of_below (below_alloc (Below.refl _ w) o) (some b))) grown_block
theorem mb_alloc {w : World} {b : Nat} {l : List (ByteArray × Value)} (h : MapB w b l) (o : Obj) : MapB (w.alloc o) b l := mb_same h ((below_alloc (Below.refl _ w) o).block _ (mb_lt h))
theorem doC {w : World} {b : Nat} {l l2 : List (ByteArray × Nat)} (h : MapB w b (ptrs l)) (c : Chg) (h2 : doM l c = some l2) :
    Calls Try.prog 41 #[.map (some b), .agg #[.int .i64 c.kind, .string c.name, .string c.dst, pv c.f]] w fun e w' => e = .returned (.tuple #[]) ∧ MapB w' b (ptrs l2) ∧ w.grownBy w' (some b) := by
  have h1 := mb_alloc h (chgO c)
  have hlt := mb_lt h
  obtain ⟨kind, name, dst, f⟩ := c
  unfold doM at h2
  by_cases c0 : kind = 0
  · subst c0
    rw [if_pos rfl] at h2
    obtain ⟨g, hg, h2⟩ := Option.map_eq_some_iff.1 h2
    simp only at hg
    subst hg
    obtain ⟨o, hput, hM⟩ := run_put (P := Try.prog) h1 Try.underlying56 Try.underlying9 name (pv (some g))
    rw [ptrs_put, h2] at hM
    have HM := Aside0.mk hM
    have HG := Aside0.mk (grown_alloc_block (o := chgO ⟨0, name, dst, some g⟩) (o' := o) hlt)
    clear h h1 hlt h2 hM
    unfold chgO pv at *
    dsimp only [Option.map] at *
    go_enter Try.func41, Try.ntmps41
    go_wp2
    go_end0
    exact ⟨rfl, HM.out, HG.out⟩
  rw [if_neg c0] at h2
  by_cases c1 : kind = 1
  · subst c1
    rw [if_pos rfl] at h2
    obtain ⟨g, hg, h2⟩ := Option.map_eq_some_iff.1 h2
    simp only at hg
    have hlk := look_dir h1 name
    rw [hg] at hlk
    replace hlk : (Instr.lookup 56 (.map (some b)) (.string name) false).run Try.prog (w.alloc (chgO ⟨1, name, dst, f⟩)) = .ok (.pointer (some ⟨g, 0, none⟩)) (w.alloc (chgO ⟨1, name, dst, f⟩)) := hlk
    obtain ⟨o1, hdel, hM1⟩ := run_del (P := Try.prog) h1 Try.underlying56 Try.underlying9 name 0
    rw [ptrs_del] at hM1
    obtain ⟨o2, hput, hM2⟩ := run_put (P := Try.prog) hM1 Try.underlying56 Try.underlying9 dst (.pointer (some ⟨g, 0, none⟩))
    replace hM2 : MapB _ b (putM (ptrs (delM l name)) dst (pv (some g))) := hM2
    rw [ptrs_put, h2] at hM2
    have HM := Aside0.mk hM2
    have HG := Aside0.mk (grown_then (grown_alloc_block (o := chgO ⟨1, name, dst, f⟩) (o' := o1) hlt) (grown_block (o := o2)))
    have hx0 := blk_new w (chgO ⟨1, name, dst, f⟩)
    have hxb : (setBlock (w.alloc (chgO ⟨1, name, dst, f⟩)) b o1).heap[w.heap.size]? = some (chgO ⟨1, name, dst, f⟩) := by
      rw [← hx0]
      exact (grown_block (w := w.alloc (chgO ⟨1, name, dst, f⟩)) (b := b) (o := o1)).block _ (by rw [alloc_size]; omega) (fun he => by injection he with he; omega)
    have hc2 := blk_cell hxb 2
    replace hc2 : (setBlock (w.alloc (chgO ⟨1, name, dst, f⟩)) b o1).cell? ⟨w.heap.size, 2, none⟩ = some (.string dst) := hc2
    clear h h1 hlt h2 hM1 hM2 hg c0 hx0 hxb
    unfold chgO pv at *
    go_enter Try.func41, Try.ntmps41
    go_wp2
    go_end0
    exact ⟨rfl, HM.out, HG.out⟩
  rw [if_neg c1] at h2
  by_cases c2 : kind = 2
  · subst c2
    rw [if_pos rfl] at h2
    obtain rfl := Option.some.inj h2
    obtain ⟨o1, hdel, hM1⟩ := run_del (P := Try.prog) h1 Try.underlying56 Try.underlying9 name 0
    rw [ptrs_del] at hM1
    have HM := Aside0.mk hM1
    have HG := Aside0.mk (grown_alloc_block (o := chgO ⟨2, name, dst, f⟩) (o' := o1) hlt)
    clear h h1 hlt h2 hM1 c0 c1
    unfold chgO pv at *
    go_enter Try.func41, Try.ntmps41
    go_wp2
    go_end0
    exact ⟨rfl, HM.out, HG.out⟩
  · rw [if_neg c2] at h2
    cases h2
end Go.Proofs.Ytoninmgglcepmaa.Dk
