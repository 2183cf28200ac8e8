/- The law DiskNil, whatever comes in. -/
import Derived.Test.YtomihbanpjedeaaDiskAct
namespace Go.Proofs.Ytomihbanpjedeaa
open Go.RowKit
set_option linter.unusedSimpArgs false
set_option maxHeartbeats 1000000 in
theorem DiskNil_go (kind at_ : Int) (A : Option Addr) (m c : Nat) (p : Pl) (w : World) :
    Calls Try.prog 8 #[actV kind at_ A m c p] w fun e w' => e = .returned (.bool true) ∧ Below w.heap.size w w' := by
  unfold actV
  go_enter Try.func8, Try.ntmps8
  go_wp2_with fail
  refine (disk_wakes _).mono ?_
  rintro e w1 ⟨rfl, hb⟩
  have hb0 : Below w.heap.size w (w.alloc (.cells #[.int .i64 kind, .int .i64 at_, .slice A m c, .int .u64 (p.keep : Int), .int .i64 p.torn, .int .i64 p.cut] 43)) := (Below.refl _ _).alloc (Nat.le_refl _) _
  have hb1 : Below w.heap.size w w1 := hb0.trans (hb.mono (by simp))
  have hblk : w1.heap[w.heap.size]? = some (.cells #[.int .i64 kind, .int .i64 at_, .slice A m c, .int .u64 (p.keep : Int), .int .i64 p.torn, .int .i64 p.cut] 43) :=
    (hb.block _ (by simp)).trans (heap_alloc_new w _)
  have e0 : w1.cell? ⟨w.heap.size, 0, none⟩ = some (.int .i64 kind) := by rw [cell_of_row _ _ 0 _ _ _ hblk]; rfl
  have e1 : w1.cell? ⟨w.heap.size, 1, none⟩ = some (.int .i64 at_) := by rw [cell_of_row _ _ 1 _ _ _ hblk]; rfl
  have hld := run_loadVar_row (P := Try.prog) w1 w.heap.size 43 43 _ (0, 0) _ hblk Try.underlying43 rfl (by kernel_rfl)
  go_wp2_with (refine wpList_load_run rfl 43 _ rfl _ rfl _ hld ?_)
  refine (do_nil kind at_ A m c p _).mono ?_
  rintro e w2 ⟨rfl, hb2⟩
  have hb3 : Below w.heap.size w w2 := hb1.trans (hb2.mono hb1.size)
  have hlt := (Array.getElem?_eq_some_iff.1 hblk).1
  have f0 : w2.cell? ⟨w.heap.size, 0, none⟩ = some (.int .i64 kind) := pw_cell_below hb2 e0
  have f1 : w2.cell? ⟨w.heap.size, 1, none⟩ = some (.int .i64 at_) := pw_cell_below hb2 e1
  clear hld hblk e0 e1 hb hb0 hb1 hb2
  by_cases h0 : kind = 0
  · subst h0
    go_wp2_with fail
    refine (read_nil at_ _).mono ?_
    rintro e w3 ⟨rfl, rfl⟩
    go_wp2_with fail
    refine (len_nil _).mono ?_
    rintro e w3 ⟨rfl, rfl⟩
    go_wp2_with fail
    refine (pending_nil _).mono ?_
    rintro e w3 ⟨rfl, rfl⟩
    go_wp2_with fail
    refine (down_nil _).mono ?_
    rintro e w3 ⟨rfl, rfl⟩
    go_wp2_with fail
    go_ret
    exact ⟨rfl, hb3⟩
  · have t0 : (kind == 0) = false := by simp [h0]
    by_cases h1 : kind = 1
    · subst h1
      go_wp2_with fail
      refine (read_nil at_ _).mono ?_
      rintro e w3 ⟨rfl, rfl⟩
      go_wp2_with fail
      refine (len_nil _).mono ?_
      rintro e w3 ⟨rfl, rfl⟩
      go_wp2_with fail
      refine (pending_nil _).mono ?_
      rintro e w3 ⟨rfl, rfl⟩
      go_wp2_with fail
      refine (down_nil _).mono ?_
      rintro e w3 ⟨rfl, rfl⟩
      go_wp2_with fail
      go_ret
      exact ⟨rfl, hb3⟩
    · have t1 : (kind == 1) = false := by simp [h1]
      rw [if_neg (by omega)]
      clear h0 h1
      go_wp2_with fail
      refine (read_nil at_ _).mono ?_
      rintro e w3 ⟨rfl, rfl⟩
      go_wp2_with fail
      refine (len_nil _).mono ?_
      rintro e w3 ⟨rfl, rfl⟩
      go_wp2_with fail
      refine (pending_nil _).mono ?_
      rintro e w3 ⟨rfl, rfl⟩
      go_wp2_with fail
      refine (down_nil _).mono ?_
      rintro e w3 ⟨rfl, rfl⟩
      go_wp2_with fail
      go_ret
      exact ⟨rfl, hb3⟩
theorem DiskNil_walk {w : World} (a : Ac) (h : a.Ok w) : Calls Try.prog 8 #[a.val] w fun e w' => e = .returned (.bool true) ∧ Below w.heap.size w w' :=
  DiskNil_go a.kind a.at_ a.A a.ks.length a.c a.p w
end Go.Proofs.Ytomihbanpjedeaa
