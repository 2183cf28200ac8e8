/- The disk: Write, where all is well. -/
import Derived.Test.YtomihbanpjedeaaDiskAppend
namespace Go.Proofs.Ytomihbanpjedeaa
open Go.RowKit Go.Proofs.YtomihbanpjedeaaW.PrintLast
set_option linter.unusedSimpArgs false

theorem own_move {w w' : World} {base : Nat} {e : TypeId} {size : Nat} {v : Value} {n : Nat} {xs : List Value} (ho : w.ownsRow base e size v n xs) (h : ∀ g, v.ownBlock = some g → w'.heap[g]? = w.heap[g]?) : w'.ownsRow base e size v n xs := by
  refine ⟨ho.1, ?_⟩
  rcases ho.2 with hn | ⟨g, cap, cur, rfl, hb, hgg, rest⟩
  · exact .inl hn
  · exact .inr ⟨g, cap, cur, rfl, hb, (h g rfl).trans hgg, rest⟩
theorem own_type {w : World} {base : Nat} {e : TypeId} {size : Nat} {v : Value} {n : Nat} {xs : List Value} (ho : w.ownsRow base e size v n xs) {g : Nat} (h : v.ownBlock = some g) : ∃ cur, w.heap[g]? = some (.cells cur e) := by
  rcases ho.2 with ⟨rfl, _⟩ | ⟨g', cap, cur, rfl, hb, hgg, rest⟩
  · simp [Value.ownBlock] at h
  · simp [Value.ownBlock] at h; subst h; exact ⟨cur, hgg⟩
theorem type_ne {w : World} {g g' : Nat} {c c' : Array Value} {e e' : TypeId} (h : w.heap[g]? = some (.cells c e)) (h' : w.heap[g']? = some (.cells c' e')) (he : e ≠ e') : g ≠ g' := fun q => by
  subst q; rw [h] at h'; simp at h'; exact he h'.2

set_option maxHeartbeats 4000000 in
set_option maxRecDepth 100000 in
theorem write_good (F : Nat → Prop) (d n k c : Nat) (s : St) (B : Addr) (ks : List Value) (w : World) (h : Dk w F d n s) (hn : n ≤ 2048) (hk : k < n) (hdn : s.dn = false) (hb : s.burnt.dn = false) (hl : ks.length = 64) (hB : Bsl w B ks) (hBF : ¬ F B.block) (hpn : s.pn.length ≤ 1000000) :
    Calls Try.prog 34 #[.pointer (some ⟨d, 0, none⟩), .int .i64 (k : Int), .slice (some B) 64 c] w fun e w' => ∃ F', e = .returned (.int .i64 0) ∧ Dk w' F' d n (s.wrote k ks) ∧ Chg F w w' ∧ Ext F F' w w' := by
  have hth := there_calls F d n s (k : Int) w h
  rw [show decide ((0 : Int) ≤ (k : Int) ∧ (k : Int) < (n : Int)) = true by simp; omega] at hth
  obtain ⟨_, _, _, _, _, _, _, _, _, c4, _, _⟩ := h.cells
  rw [hdn] at c4
  have hbc := burn_calls F d n s w h
  rw [hb] at hbc
  have harr : ∀ W, (Instr.arrayAt 78 (.slice (some B) 64 c)).run Try.prog W = .ok (.pointer (some B)) W := fun W => by
    simp [Instr.arrayAt, run_underlying Try.underlying78]
  go_enter Try.func34, Try.ntmps34
  go_wp2_with fail
  refine hth.mono ?_
  rintro e w0 ⟨rfl, rfl⟩
  go_wp2_with fail
  refine hbc.mono ?_
  rintro e w1 ⟨rfl, hD, hc⟩
  clear hth c4
  obtain ⟨gs, gn, cs, cn, v, hdd, o1, o2, o3, f0, f1, f2, f3, hne, hok⟩ := hD
  rw [St.burnt_nw] at o2
  rw [St.burnt_sy] at o1
  rw [St.burnt_pn] at o3
  have hB1 : Bsl w1 B ks := ⟨hB.1, fun j u hj => by
    have h0 := hB.2 j u hj
    have hlt := World.block_lt_of_cell? _ _ h0
    exact (World.cell?_of_block (hc.block _ hlt (by rw [add_block]; exact hBF))).trans h0⟩
  have hld11 : (loadVar 78 B).run Try.prog w1 = .ok (.agg ks.toArray) w1 := load_sec hl hB1.2
  have hone : ks.toArray.all (·.oneCell') = true := Array.all_eq_true_iff_forall_mem.2 fun u hu => hB.1.one u (by simpa using hu)
  have hst11 : (storeVar 78 ⟨w1.heap.size, 0, none⟩ (.agg ks.toArray)).run Try.prog (w1.alloc (.cells Z64 78)) = .ok () (w1.alloc (.cells ks.toArray 78)) := run_storeVar_new w1 78 Z64 ks.toArray (by rw [size78]; simp [hl]) (by simp [hl, Z64_size]) hone
  obtain ⟨gnc, hgnc⟩ : ∃ cur, w1.heap[gn]? = some (.cells cur 78) := own_type o2 rfl
  obtain ⟨gsc, hgsc⟩ : ∃ cur, w1.heap[gs]? = some (.cells cur 78) := own_type o1 rfl
  have hgnl := (Array.getElem?_eq_some_iff.1 hgnc).1
  have hgsl := (Array.getElem?_eq_some_iff.1 hgsc).1
  have hdl := (Array.getElem?_eq_some_iff.1 hdd).1
  have hdg : d ≠ gn := type_ne hdd hgnc (by decide)
  have hvl : ∀ g, v.ownBlock = some g → g < w1.heap.size ∧ g ≠ gn ∧ g ≠ gs ∧ g ≠ d := fun g hg => by
    obtain ⟨cu, hcu⟩ := own_type o3 hg
    exact ⟨(Array.getElem?_eq_some_iff.1 hcu).1, type_ne hcu hgnc (by decide), type_ne hcu hgsc (by decide), type_ne hcu hdd (by decide)⟩
  -- region 12
  have hb2 : ∀ i, i < w1.heap.size → (w1.alloc (.cells ks.toArray 78)).drew.heap[i]? = w1.heap[i]? := fun i hi => Below.heap_alloc _ _ _ hi
  have o22 : (w1.alloc (.cells ks.toArray 78)).drew.ownsRow 0 78 64 (.slice (some ⟨gn, 0, none⟩) n cn) n s.nw := own_move o2 (fun g hg => by cases hg; exact hb2 gn hgnl)
  obtain ⟨w3, hst12, on3, g3, hs3⟩ := store_sec o22 hk hl hB.1
  have h12a : (w1.alloc (.cells ks.toArray 78)).drew.cell? ⟨d, 1, none⟩ = some (.slice (some ⟨gn, 0, none⟩) n cn) := (cell_of_row _ d 1 _ _ _ ((hb2 d hdl).trans hdd)).trans rfl
  have h12b : (loadVar 78 ⟨w1.heap.size, 0, none⟩).run Try.prog (w1.alloc (.cells ks.toArray 78)).drew = .ok (.agg ks.toArray) (w1.alloc (.cells ks.toArray 78)).drew :=
    run_loadVar_row (P := Try.prog) _ w1.heap.size 78 78 ks.toArray (0, 0) _ (heap_alloc_new w1 _) Try.underlying78 rfl (by rw [size78]; simp [hl])
  -- region 13
  have hb3 : ∀ i, i < w1.heap.size → i ≠ gn → w3.drew.heap[i]? = w1.heap[i]? := fun i hi hq => (g3.block i (by simp; omega) (fun e => hq (Option.some.inj e))).trans (hb2 i hi)
  have hs3' : w3.heap.size = w1.heap.size + 1 := by rw [hs3]; simp
  have hdd3 := (hb3 d hdl hdg).trans hdd
  have h13a : w3.drew.cell? ⟨d, 2, none⟩ = some v := (cell_of_row _ d 2 _ _ _ hdd3).trans rfl
  have hr3 : w3.drew.heap[w1.heap.size]? = some (.cells ks.toArray 78) := (g3.block w1.heap.size (by simp) (fun e => by have := Option.some.inj e; omega)).trans (heap_alloc_new w1 _)
  have h13b : (loadVar 78 ⟨w1.heap.size, 0, none⟩).run Try.prog w3.drew = .ok (.agg ks.toArray) w3.drew :=
    run_loadVar_row (P := Try.prog) _ w1.heap.size 78 78 ks.toArray (0, 0) _ hr3 Try.underlying78 rfl (by rw [size78]; simp [hl])
  have hl65 : (Value.int .i64 (k : Int) :: ks).length = 65 := by simp [hl]
  have hbs13 := build_writes hl65 w3.drew
  have hb4 : ∀ i, i < w3.heap.size → (w3.drew.alloc (.cells (Value.int .i64 (k : Int) :: ks).toArray 81)).heap[i]? = w3.heap[i]? := fun i hi => Below.heap_alloc _ _ _ hi
  have hdd4 := (hb4 d (by omega)).trans hdd3
  have h13c : (w3.drew.alloc (.cells (Value.int .i64 (k : Int) :: ks).toArray 81)).cell? ⟨d, 2, none⟩ = some v := (cell_of_row _ d 2 _ _ _ hdd4).trans rfl
  have h13d : (loadVar 78 ⟨w1.heap.size, 0, none⟩).run Try.prog (w3.drew.alloc (.cells (Value.int .i64 (k : Int) :: ks).toArray 81)) = .ok (.agg ks.toArray) (w3.drew.alloc (.cells (Value.int .i64 (k : Int) :: ks).toArray 81)) :=
    run_loadVar_row (P := Try.prog) _ w1.heap.size 78 78 ks.toArray (0, 0) _ ((hb4 _ (by omega)).trans hr3) Try.underlying78 rfl (by rw [size78]; simp [hl])
  have o34 : (w3.drew.alloc (.cells (Value.int .i64 (k : Int) :: ks).toArray 81)).ownsRow 0 81 65 v s.pn.length (flat s.pn) := own_move o3 (fun g hg => by
    obtain ⟨q1, q2, q3, q4⟩ := hvl g hg
    exact (hb4 g (by omega)).trans (hb3 g q1 q2))
  have hc65 : ∀ u ∈ (Value.int .i64 (k : Int) :: ks), u.oneCell' = true := fun u hu => by
    rcases List.mem_cons.1 hu with rfl | hu
    · rfl
    · exact hB.1.one u hu
  obtain ⟨v', w5, happ13, o5, g5, hv5⟩ := append_writes o34 (a := ⟨w3.drew.heap.size, 0, none⟩) hl65 hc65 (fun j u hj => by
    have hadd : (⟨w3.drew.heap.size, 0, none⟩ : Addr).add j = ⟨w3.drew.heap.size, j, none⟩ := by unfold Addr.add; split <;> simp_all
    rw [hadd, cell_of_row _ _ j _ _ _ (heap_alloc_new w3.drew _)]
    simpa using hj) hpn 73
  have hb5 : ∀ i, i < w3.heap.size → v.ownBlock ≠ some i → w5.heap[i]? = w3.heap[i]? := fun i hi hq => (g5.block i (by simp; omega) (fun e => hq e.symm)).trans (hb4 i hi)
  have hdv : v.ownBlock ≠ some d := fun e => (hvl d e).2.2.2 rfl
  have hdd5 := (hb5 d (by omega) hdv).trans hdd3
  have hcell5 : w5.cell? ⟨d, 2, none⟩ = some v := (cell_of_row _ d 2 _ _ _ hdd5).trans rfl
  have hfro5 : w5.frozen? ⟨d, 2, none⟩ = false := frozen_of_row _ d 2 _ _ hdd5
  have hs5 : w1.heap.size ≤ w5.heap.size := by have := g5.size; simp at this; omega
  have hd6 := heap_setCell_same w5 d 2 _ _ v' hdd5
  have hb6 : ∀ i, i ≠ d → (w5.setCell ⟨d, 2, none⟩ v').heap[i]? = w5.heap[i]? := fun i hi => Below.heap_setCell _ _ _ i hi
  have hfin : Dk (w5.setCell ⟨d, 2, none⟩ v') (fun i => F i ∨ (w0.heap.size ≤ i ∧ i < w5.heap.size)) d n (s.wrote k ks) := by
    rw [← St.burnt_sy] at o1
    refine ⟨gs, gn, cs, cn, v', ?_, own_move o1 (fun g hg => ?_), own_move on3 (fun g hg => ?_), ?_, .inl f0, .inl f1, .inl f2, fun g hg => ?_, hne, ?_⟩
    · rw [hd6]; rfl
    · cases hg
      exact (hb6 gs (fun e => type_ne hgsc hdd (by decide) e)).trans ((hb5 gs (by omega) (fun e => (hvl gs e).2.2.1 rfl)).trans (hb3 gs hgsl hne))
    · cases hg
      exact (hb6 gn (Ne.symm hdg)).trans (hb5 gn (by omega) (fun e => (hvl gn e).2.1 rfl))
    · have o6 : (w5.setCell ⟨d, 2, none⟩ v').ownsRow 0 81 65 v' (s.pn.length + 1) (flat s.pn ++ (Value.int .i64 (k : Int) :: ks)) := own_move o5 (fun g hg => hb6 g (by
        obtain ⟨cu, hcu⟩ := own_type o5 hg
        exact type_ne hcu hdd5 (by decide)))
      have hfl : flat (s.pn ++ [(k, ks)]) = flat s.pn ++ (Value.int .i64 (k : Int) :: ks) := by simp [flat]
      show World.ownsRow _ 0 81 65 v' (s.pn ++ [(k, ks)]).length (flat (s.pn ++ [(k, ks)]))
      rw [hfl, List.length_append]
      exact o6
    · rcases hv5 g hg with e | e
      · exact .inl (f3 g e)
      · exact .inr ⟨by have := hc.size; have := e.1; simp at this; omega, e.2⟩
    · refine ⟨hok.sl, put_length (n := n) (by have := hok.nl; rw [St.burnt_nw] at this; exact this) hk (by omega), hok.sb, put_bytes (by have := hok.nb; rw [St.burnt_nw] at this; exact this) hB.1 k, fun p hp => ?_, hok.f1, hok.f2⟩
      rcases List.mem_append.1 hp with hp | hp
      · exact hok.pl p (by rw [St.burnt_pn]; exact hp)
      · rw [List.mem_singleton.1 hp]; exact ⟨hk, hl, hB.1⟩
  have hchg : Chg F w0 (w5.setCell ⟨d, 2, none⟩ v') := by
    refine ⟨g5.os.trans (g3.os.trans hc.os), g5.tape.trans (g3.tape.trans hc.tape), g5.output.trans (g3.output.trans hc.output), by have := hc.size; simp; omega, fun i hi hf => ?_⟩
    have hi1 : i < w1.heap.size := by have := hc.size; omega
    exact (hb6 i (fun e => hf (by rw [e]; exact f0))).trans ((hb5 i (by omega) (fun e => hf (f3 i e))).trans ((hb3 i hi1 (fun e => hf (by rw [e]; exact f2))).trans (hc.block i hi hf)))
  have hext : Ext F (fun i => F i ∨ (w0.heap.size ≤ i ∧ i < w5.heap.size)) w0 (w5.setCell ⟨d, 2, none⟩ v') := fun i hi => hi.imp id (fun q => ⟨q.1, by simpa using q.2⟩)
  obtain ⟨A5, n5, c5, rfl⟩ : ∃ A5 n5 c5, v' = .slice A5 n5 c5 := by
    rcases o5.2 with ⟨e, _⟩ | ⟨g, cap, cur, e, _⟩
    · exact ⟨_, _, _, e⟩
    · exact ⟨_, _, _, e⟩
  have i1 : (0 : Int) ≤ (k : Int) := by omega
  have i2 : (k : Int) < (n : Int) := by omega
  have HB := Lib.hid hB
  clear hdd hdd3 hdd4 hdd5 hd6 hb2 hb3 hb4 hb5 hb6 o1 o2 o3 o22 on3 g3 g5 o34 o5 hv5 hvl hgnc hgsc hr3 hB hB1 hs3 hs3' hone hc65 hok h
  go_wp2_with (first | (refine wpList_store_run rfl 78 _ _ rfl rfl _ rfl _ rfl _ hst11 ?_) | (refine wpList_load_run rfl 78 _ rfl _ rfl _ hld11 ?_))
  refine start_ (n := 8) (S := fun w' => w'.cell? ⟨d, 1, none⟩ = some (.slice (some ⟨gn, 0, none⟩) n cn) ∧ (loadVar 78 ⟨w1.heap.size, 0, none⟩).run Try.prog w' = .ok (.agg ks.toArray) w') (ds := [7]) #[false, false, false, false, false, false, false, false] (by kernel_rfl) rfl rfl ⟨h12a, h12b⟩ (fun hHeld => ?_)
  refine pure_ (i := 0) (N := some 32) (v := ?_) (a' := ?_) #[true, false, false, false, false, false, false, false] rfl rfl (by kernel_rfl) (fun _ _ _ h => h) (Or.inl ⟨by rfl, ?_⟩) ?_ ?_
  rotate_left
  · intro w'
    go_simp
    with_reducible rfl
  rotate_left
  · simp only [Act.put, List.setIfInBounds_toArray, List.set_cons_zero, List.set_cons_succ, i64_w, i32_w]
    rfl
  refine pure_ (i := 1) (N := some 33) (v := ?_) (a' := ?_) #[true, true, false, false, false, false, false, false] rfl rfl (by kernel_rfl) (fun _ _ _ h => h) (Or.inl ⟨by rfl, ?_⟩) ?_ ?_
  rotate_left
  · intro w'
    go_simp
    with_reducible rfl
  rotate_left
  · simp only [Act.put, List.setIfInBounds_toArray, List.set_cons_zero, List.set_cons_succ, i64_w, i32_w]
    rfl
  refine pure_ (i := 2) (N := some 34) (v := ?_) (a' := ?_) #[true, true, true, false, false, false, false, false] rfl rfl (by kernel_rfl) (fun _ _ _ h => h) (Or.inl ⟨by rfl, ?_⟩) ?_ ?_
  rotate_left
  · intro w'
    go_simp
    with_reducible rfl
  rotate_left
  · simp only [Act.put, List.setIfInBounds_toArray, List.set_cons_zero, List.set_cons_succ, i64_w, i32_w]
    rfl
  refine pure_ (i := 4) (N := some 36) (v := ?_) (a' := ?_) #[true, true, true, false, true, false, false, false] rfl rfl (by kernel_rfl) (fun _ _ _ h => h) (Or.inl ⟨by rfl, ?_⟩) ?_ ?_
  rotate_left
  · intro w'
    go_simp
    with_reducible rfl
  rotate_left
  · simp only [Act.put, List.setIfInBounds_toArray, List.set_cons_zero, List.set_cons_succ, i64_w, i32_w]
    rfl
  refine take_ (i := 3) (N := some 35) (v := ?_) (a' := ?_) #[true, true, true, true, true, false, false, false] rfl rfl (by kernel_rfl) (fun _ _ _ h => h) (Or.inl ⟨by rfl, ?_⟩) hHeld ?_ ?_
  rotate_left
  · rintro w' ⟨s0, s1⟩
    go_simp
    with_reducible rfl
  rotate_left
  · simp only [Act.put, List.setIfInBounds_toArray, List.set_cons_zero, List.set_cons_succ, i64_w, i32_w]
    rfl
  refine take_ (i := 5) (N := some 37) (v := ?_) (a' := ?_) #[true, true, true, true, true, true, false, false] rfl rfl (by kernel_rfl) (fun _ _ _ h => h) (Or.inl ⟨by rfl, ?_⟩) hHeld ?_ ?_
  rotate_left
  · rintro w' ⟨s0, s1⟩
    rw [exec_load 78 _ rfl _ (by rfl) _ s1]
  rotate_left
  · simp only [Act.put, List.setIfInBounds_toArray, List.set_cons_zero, List.set_cons_succ, i64_w, i32_w]
    rfl
  refine pure_ (i := 6) (N := some 38) (v := ?_) (a' := ?_) #[true, true, true, true, true, true, true, false] rfl rfl (by kernel_rfl) (fun _ _ _ h => h) (Or.inl ⟨by rfl, ?_⟩) ?_ ?_
  rotate_left
  · intro w'
    go_simp
    with_reducible rfl
  rotate_left
  · simp only [Act.put, List.setIfInBounds_toArray, List.set_cons_zero, List.set_cons_succ, i64_w, i32_w]
    rfl
  refine last_ (i := 7) (N := none) #[true, true, true, true, true, true, true, true] rfl rfl (by kernel_rfl) (by decide) (fun K hK => ?_)
  refine skip_ (w1 := ?_) (by rfl) rfl ?_ ?_
  rotate_left
  · rw [exec_store 78 _ _ rfl ⟨gn, k * 64, none⟩ (by rfl) (.agg ks.toArray) (by rfl) hst12]
  refine hK.out _ _ ?_
  clear hK K
  refine done_ (by kernel_rfl) ?_
  go_wp2_with fail
  refine start_ (n := 13) (S := fun w' => w'.cell? ⟨d, 2, none⟩ = some v ∧ (loadVar 78 ⟨w1.heap.size, 0, none⟩).run Try.prog w' = .ok (.agg ks.toArray) w') (ds := [9, 12]) #[false, false, false, false, false, false, false, false, false, false, false, false, false] (by kernel_rfl) rfl rfl ⟨h13a, h13b⟩ (fun hHeld => ?_)
  refine pure_ (i := 0) (N := some 39) (v := ?_) (a' := ?_) #[true, false, false, false, false, false, false, false, false, false, false, false, false] rfl rfl (by kernel_rfl) (fun _ _ _ h => h) (Or.inl ⟨by rfl, ?_⟩) ?_ ?_
  rotate_left
  · intro w'
    go_simp
    with_reducible rfl
  rotate_left
  · simp only [Act.put, List.setIfInBounds_toArray, List.set_cons_zero, List.set_cons_succ, i64_w, i32_w]
    rfl
  refine pure_ (i := 1) (N := some 40) (v := ?_) (a' := ?_) #[true, true, false, false, false, false, false, false, false, false, false, false, false] rfl rfl (by kernel_rfl) (fun _ _ _ h => h) (Or.inl ⟨by rfl, ?_⟩) ?_ ?_
  rotate_left
  · intro w'
    go_simp
    with_reducible rfl
  rotate_left
  · simp only [Act.put, List.setIfInBounds_toArray, List.set_cons_zero, List.set_cons_succ, i64_w, i32_w]
    rfl
  refine pure_ (i := 2) (N := some 41) (v := ?_) (a' := ?_) #[true, true, true, false, false, false, false, false, false, false, false, false, false] rfl rfl (by kernel_rfl) (fun _ _ _ h => h) (Or.inl ⟨by rfl, ?_⟩) ?_ ?_
  rotate_left
  · intro w'
    go_simp
    with_reducible rfl
  rotate_left
  · simp only [Act.put, List.setIfInBounds_toArray, List.set_cons_zero, List.set_cons_succ, i64_w, i32_w]
    rfl
  refine pure_ (i := 3) (N := some 42) (v := ?_) (a' := ?_) #[true, true, true, true, false, false, false, false, false, false, false, false, false] rfl rfl (by kernel_rfl) (fun _ _ _ h => h) (Or.inl ⟨by rfl, ?_⟩) ?_ ?_
  rotate_left
  · intro w'
    go_simp
    with_reducible rfl
  rotate_left
  · simp only [Act.put, List.setIfInBounds_toArray, List.set_cons_zero, List.set_cons_succ, i64_w, i32_w]
    rfl
  refine pure_ (i := 5) (N := some 44) (v := ?_) (a' := ?_) #[true, true, true, true, false, true, false, false, false, false, false, false, false] rfl rfl (by kernel_rfl) (fun _ _ _ h => h) (Or.inl ⟨by rfl, ?_⟩) ?_ ?_
  rotate_left
  · intro w'
    go_simp
    with_reducible rfl
  rotate_left
  · simp only [Act.put, List.setIfInBounds_toArray, List.set_cons_zero, List.set_cons_succ, i64_w, i32_w]
    rfl
  refine take_ (i := 4) (N := some 43) (v := ?_) (a' := ?_) #[true, true, true, true, true, true, false, false, false, false, false, false, false] rfl rfl (by kernel_rfl) (fun _ _ _ h => h) (Or.inl ⟨by rfl, ?_⟩) hHeld ?_ ?_
  rotate_left
  · rintro w' ⟨s0, s1⟩
    go_simp
    with_reducible rfl
  rotate_left
  · simp only [Act.put, List.setIfInBounds_toArray, List.set_cons_zero, List.set_cons_succ, i64_w, i32_w]
    rfl
  refine take_ (i := 6) (N := some 45) (v := ?_) (a' := ?_) #[true, true, true, true, true, true, true, false, false, false, false, false, false] rfl rfl (by kernel_rfl) (fun _ _ _ h => h) (Or.inl ⟨by rfl, ?_⟩) hHeld ?_ ?_
  rotate_left
  · rintro w' ⟨s0, s1⟩
    rw [exec_load 78 _ rfl _ (by rfl) _ s1]
  rotate_left
  · simp only [Act.put, List.setIfInBounds_toArray, List.set_cons_zero, List.set_cons_succ, i64_w, i32_w]
    rfl
  refine pure_ (i := 7) (N := some 46) (v := ?_) (a' := ?_) #[true, true, true, true, true, true, true, true, false, false, false, false, false] rfl rfl (by kernel_rfl) (fun _ _ _ h => h) (Or.inl ⟨by rfl, ?_⟩) ?_ ?_
  rotate_left
  · intro w'
    rw [exec_build rfl (by simp only [List.map_toArray, List.map_cons, List.map_nil]; rfl) (build_write hl w')]
  rotate_left
  · simp only [Act.put, List.setIfInBounds_toArray, List.set_cons_zero, List.set_cons_succ, i64_w, i32_w]
    rfl
  refine one_ (i := 8) (N := some 47) #[true, true, true, true, true, true, true, true, true, false, false, false, false] rfl rfl (by kernel_rfl) (by decide) (fun K hK => ?_)
  refine value_ (w1 := ?_) (v := ?_) (by rfl) rfl ?_ ?_
  rotate_left 2
  · rw [exec_bs rfl (by simp only [List.map_toArray, List.map_cons, List.map_nil]; rfl) hbs13]
  refine hK.out _ _ ⟨h13c, h13d⟩ (fun hHeld => ?_)
  clear hK K
  refine norm_ (a' := ?_) ?_ ?_
  rotate_left
  · show Act.put _ (some 47) _ = _
    simp only [Act.put, List.setIfInBounds_toArray, List.set_cons_zero, List.set_cons_succ, i64_w, i32_w]
    rfl
  refine last_ (i := 9) (N := some 48) #[true, true, true, true, true, true, true, true, true, true, false, false, false] rfl rfl (by kernel_rfl) (by decide) (fun K hK => ?_)
  refine value_ (w1 := ?_) (v := ?_) (by rfl) rfl ?_ ?_
  rotate_left 2
  · rw [exec_append rfl (by rfl) (by rfl) happ13]
  refine hK.out _ _ ?_
  clear hK K
  refine norm_ (a' := ?_) ?_ ?_
  rotate_left
  · show Act.put _ (some 48) _ = _
    simp only [Act.put, List.setIfInBounds_toArray, List.set_cons_zero, List.set_cons_succ, i64_w, i32_w]
    rfl
  refine pure_ (i := 10) (N := some 49) (v := ?_) (a' := ?_) #[true, true, true, true, true, true, true, true, true, true, true, false, false] rfl rfl (by kernel_rfl) (fun _ _ _ h => h) (Or.inl ⟨by rfl, ?_⟩) ?_ ?_
  rotate_left
  · intro w'
    go_simp
    with_reducible rfl
  rotate_left
  · simp only [Act.put, List.setIfInBounds_toArray, List.set_cons_zero, List.set_cons_succ, i64_w, i32_w]
    rfl
  refine pure_ (i := 11) (N := some 50) (v := ?_) (a' := ?_) #[true, true, true, true, true, true, true, true, true, true, true, true, false] rfl rfl (by kernel_rfl) (fun _ _ _ h => h) (Or.inl ⟨by rfl, ?_⟩) ?_ ?_
  rotate_left
  · intro w'
    go_simp
    with_reducible rfl
  rotate_left
  · simp only [Act.put, List.setIfInBounds_toArray, List.set_cons_zero, List.set_cons_succ, i64_w, i32_w]
    rfl
  refine last_ (i := 12) (N := none) #[true, true, true, true, true, true, true, true, true, true, true, true, true] rfl rfl (by kernel_rfl) (by decide) (fun K hK => ?_)
  refine skip_ (w1 := ?_) (by rfl) rfl ?_ ?_
  rotate_left
  · go_simp
    rfl
  refine hK.out _ _ ?_
  clear hK K
  refine done_ (by kernel_rfl) ?_
  go_wp2
  go_ret
  exact ⟨_, rfl, hfin, hchg, hext⟩
end Go.Proofs.Ytomihbanpjedeaa
