/- Matrices: a matrix and one beside it; a row of both. -/
import Derived.Test.YtoijjlpkoniipaaMatCopy
import Derived.Deep.WholeRow
namespace Go.Proofs.Ytoijjlpkoniipaa
open Go.RowKit Go.Proofs.YtoijjlpkoniipaaW.PrintWords Go.Proofs.YtoijjlpkoniipaaW.PrintLast Gf Lin
set_option linter.unusedSimpArgs false
theorem exec_store {P : Program} {w w' : World} {ρ : Operand → Value} {o : Oper} (ty : TypeId) (x y : Operand) (ho : o.op = .store ty x y) (ad : Addr) (hx : ρ x = .pointer (some ad)) (v : Value) (hy : ρ y = v) (hr : (storeVar ty ad v).run P w = .ok () w') : (execOp ρ o).run P w = .ok .skip w' := by
  unfold execOp
  simp only [ho, hx, hy, Instr.storeAt, Instr.sureAddr, Sem.run_bind, Sem.run_pure, Result.andThen_ok, hr]
theorem exec_build {P : Program} {w : World} {ρ : Operand → Value} {o : Oper} {t : TypeId} {ps : Array (Nat × Operand)} {parts : Array (Nat × Value)} {v : Value} (ho : o.op = .build t ps) (hp : (ps.map fun (i, x) => (i, ρ x)) = parts) (hr : (Instr.build t parts).run P w = .ok v w) : (execOp ρ o).run P w = .ok (.value v) w := by
  unfold execOp
  simp only [ho, hp, Sem.run_bind, Sem.run_pure, Result.andThen_ok, hr]
theorem results_cell1 {fn : Func} {p : Tmp} {ty : TypeId} (h : fn.results = #[.cell p ty]) (tmps : Array Value) (P : Program) (w : World) :
    (results fn tmps).run P w = ((asAddr (tmps.getD p undef)).run P w).andThen fun a w₁ => (loadVar ty a).run P w₁ := by
  simp only [results, h]
  simp [Sem.run_bind, Result.andThen]
theorem info113 : (Try.prog.info? 113).map (fun i => (i.zero, i.size)) = some (some (.agg #[.slice none 0 0, .slice none 0 0]), 2) := by kernel_rfl
theorem info35 : (Try.prog.info? 35).map (fun i => (i.zero, i.size, i.bytes)) = some (some (.slice none 0 0), 1, 24) := by kernel_rfl
theorem build_both (A B : Option Addr) (c c' d d' : Nat) (W : World) : (Instr.build 113 #[(0, .slice A c c'), (1, .slice B d d')]).run Try.prog W = .ok (.agg #[.slice A c c', .slice B d d']) W := by
  obtain ⟨i0, hi, h0⟩ := Option.map_eq_some_iff.1 info113
  simp only [Prod.mk.injEq] at h0
  obtain ⟨i1, hi1, h1⟩ := Option.map_eq_some_iff.1 info35
  simp only [Prod.mk.injEq] at h1
  have hzv : (zeroValue 113).run Try.prog W = .ok (.agg #[.slice none 0 0, .slice none 0 0]) W := by simp [zeroValue, typeInfo, hi, h0.1]
  have h35 : (sizeOf 35).run Try.prog W = .ok 1 W := by simp [sizeOf, typeInfo, hi1, h1.2.1]
  simp only [Instr.build, Sem.run_bind, hzv, Result.andThen, run_underlying Try.underlying113, h35]
  rfl
/-- A matrix that is worked on, and one beside it. -/
structure Wk (w : World) (g gt gm ga gs gb n c d : Nat) (p q : Nat → Nat) (M S : Lin.M) : Prop where
  blk : w.heap[g]? = some (.cells #[.pointer (some ⟨gt, 0, none⟩), .slice (some ⟨gm, 0, none⟩) n n, .slice (some ⟨gs, 0, none⟩) n n] 102)
  tab : Tab w gt
  m : Mat w gm ga n c p M
  s : Mat w gs gb n d q S
  pp : Perm n p
  pq : Perm n q
  ne1 : gm ≠ ga ∧ gs ≠ gb ∧ gm ≠ gs ∧ gm ≠ gb ∧ ga ≠ gs ∧ ga ≠ gb
  ne2 : g ≠ gm ∧ g ≠ ga ∧ g ≠ gs ∧ g ≠ gb
  ne3 : gt ≠ gm ∧ gt ≠ ga ∧ gt ≠ gs ∧ gt ≠ gb
  lt : gt < w.heap.size ∧ gm < w.heap.size ∧ ga < w.heap.size ∧ gs < w.heap.size ∧ gb < w.heap.size
  n1 : 1 ≤ n ∧ n ≤ 255
  c1 : 1 ≤ c ∧ c ≤ 255
  d1 : 1 ≤ d ∧ d ≤ 255
/-- The blocks that turn. -/
def WF (gm ga gs gb : Nat) (i : Nat) : Prop := i = gm ∨ i = ga ∨ i = gs ∨ i = gb
theorem Wk.glt {w : World} {g gt gm ga gs gb n c d : Nat} {p q : Nat → Nat} {M S : Lin.M} (h : Wk w g gt gm ga gs gb n c d p q M S) : g < w.heap.size := (Array.getElem?_eq_some_iff.1 h.blk).1
theorem tab_same {w w1 : World} {gt : Nat} (h : Tab w gt) (hb : w1.heap[gt]? = w.heap[gt]?) : Tab w1 gt :=
  ⟨fun i hi => (World.cell?_of_block (a := ⟨gt, i, none⟩) hb).trans (h.1 i hi), fun a => (World.cell?_of_block (a := ⟨gt, 510 + a.toNat, none⟩) hb).trans (h.2 a)⟩
theorem Wk.below {w w1 : World} {g gt gm ga gs gb n c d : Nat} {p q : Nat → Nat} {M S : Lin.M} (h : Wk w g gt gm ga gs gb n c d p q M S) (hb : Below w.heap.size w w1) : Wk w1 g gt gm ga gs gb n c d p q M S :=
  ⟨(hb.block g h.glt).trans h.blk, tab_same h.tab (hb.block gt h.lt.1), h.m.same (hb.block gm h.lt.2.1) (hb.block ga h.lt.2.2.1), h.s.same (hb.block gs h.lt.2.2.2.1) (hb.block gb h.lt.2.2.2.2), h.pp, h.pq, h.ne1, h.ne2, h.ne3, by have := hb.size; have := h.lt; omega, h.n1, h.c1, h.d1⟩
theorem Wk.c0 {w : World} {g gt gm ga gs gb n c d : Nat} {p q : Nat → Nat} {M S : Lin.M} (h : Wk w g gt gm ga gs gb n c d p q M S) : w.cell? ⟨g, 0, none⟩ = some (.pointer (some ⟨gt, 0, none⟩)) := (cell_of_row _ g 0 _ _ _ h.blk).trans rfl
theorem Wk.c1' {w : World} {g gt gm ga gs gb n c d : Nat} {p q : Nat → Nat} {M S : Lin.M} (h : Wk w g gt gm ga gs gb n c d p q M S) : w.cell? ⟨g, 1, none⟩ = some (.slice (some ⟨gm, 0, none⟩) n n) := (cell_of_row _ g 1 _ _ _ h.blk).trans rfl
theorem Wk.c2 {w : World} {g gt gm ga gs gb n c d : Nat} {p q : Nat → Nat} {M S : Lin.M} (h : Wk w g gt gm ga gs gb n c d p q M S) : w.cell? ⟨g, 2, none⟩ = some (.slice (some ⟨gs, 0, none⟩) n n) := (cell_of_row _ g 2 _ _ _ h.blk).trans rfl
theorem Wk.congr {w : World} {g gt gm ga gs gb n c d : Nat} {p q : Nat → Nat} {M S M' S' : Lin.M} (h : Wk w g gt gm ga gs gb n c d p q M S) (hm : ∀ i, i < n → ∀ j, j < c → M' i j = M i j) (hs : ∀ i, i < n → ∀ j, j < d → S' i j = S i j) : Wk w g gt gm ga gs gb n c d p q M' S' :=
  { h with m := h.m.congr hm, s := h.s.congr hs }
theorem Wk.drw {w : World} {g gt gm ga gs gb n c d : Nat} {p q : Nat → Nat} {M S : Lin.M} (h : Wk w g gt gm ga gs gb n c d p q M S) : Wk w.drew g gt gm ga gs gb n c d p q M S := h.below ⟨rfl, rfl, rfl, Nat.le_refl _, fun _ _ => rfl⟩
def bothV (gm ga gs gb c d o1 o2 : Nat) : Value := .agg #[.slice (some ⟨ga, o1, none⟩) c c, .slice (some ⟨gb, o2, none⟩) d d]
set_option maxHeartbeats 2000000 in
set_option maxRecDepth 100000 in
theorem both_calls {w : World} {g gt gm ga gs gb n c d : Nat} {p q : Nat → Nat} {M S : Lin.M} (h : Wk w g gt gm ga gs gb n c d p q M S) {i : Nat} (hi : i < n) :
    Calls Try.prog 82 #[.pointer (some ⟨g, 0, none⟩), .int .i64 (i : Int)] w fun e w' => e = .returned (.agg #[.slice (some ⟨ga, p i * c, none⟩) c c, .slice (some ⟨gb, q i * d, none⟩) d d]) ∧ Below w.heap.size w w' := by
  obtain ⟨o1, ho1⟩ : ∃ o1, o1 = p i * c := ⟨_, rfl⟩
  obtain ⟨o2, ho2⟩ : ∃ o2, o2 = q i * d := ⟨_, rfl⟩
  have hb1 : Below w.heap.size w (w.alloc (.cells #[.slice none 0 0, .slice none 0 0] 113)).drew := by
    have := (Below.refl w.heap.size w).alloc (Nat.le_refl _) (.cells #[.slice none 0 0, .slice none 0 0] 113)
    exact ⟨this.os, this.tape, this.output, this.size, this.block⟩
  have hw1 := h.below hb1
  have h1 := hw1.c1'
  have h2 := hw1.c2
  have h3 := hw1.m.rows i hi
  have h4 := hw1.s.rows i hi
  rw [← ho1, ← ho2]
  rw [← ho1] at h3
  rw [← ho2] at h4
  have hst : (storeVar 113 ⟨w.heap.size, 0, none⟩ (.agg #[.slice (some ⟨ga, o1, none⟩) c c, .slice (some ⟨gb, o2, none⟩) d d])).run Try.prog (w.alloc (.cells #[.slice none 0 0, .slice none 0 0] 113)).drew = .ok () (w.alloc (.cells #[.slice (some ⟨ga, o1, none⟩) c c, .slice (some ⟨gb, o2, none⟩) d d] 113)).drew := run_storeVar_new (P := Try.prog) w.drew 113 #[.slice none 0 0, .slice none 0 0] #[.slice (some ⟨ga, o1, none⟩) c c, .slice (some ⟨gb, o2, none⟩) d d] (by kernel_rfl) rfl (by simp [Value.oneCell'])
  have hbd := build_both (some ⟨ga, o1, none⟩) (some ⟨gb, o2, none⟩) c c d d
  have hres := run_loadVar_row (P := Try.prog) (w.alloc (.cells #[.slice (some ⟨ga, o1, none⟩) c c, .slice (some ⟨gb, o2, none⟩) d d] 113)).drew w.heap.size 113 113 #[.slice (some ⟨ga, o1, none⟩) c c, .slice (some ⟨gb, o2, none⟩) d d] (0, 0) _ (heap_alloc_new w _) Try.underlying113 rfl (by kernel_rfl)
  have i1 : (0 : Int) ≤ (i : Int) := by omega
  have i2 : (i : Int) < (n : Int) := by omega
  have H := Lib.hid h
  clear h hw1 hb1 ho1 ho2
  go_enter Try.func82, Try.ntmps82
  go_wp2
  refine start_ (n := 16) (S := fun w' => w'.cell? ⟨g, 1, none⟩ = some (.slice (some ⟨gm, 0, none⟩) n n) ∧ w'.cell? ⟨g, 2, none⟩ = some (.slice (some ⟨gs, 0, none⟩) n n) ∧ w'.cell? ⟨gm, i, none⟩ = some (.slice (some ⟨ga, o1, none⟩) c c) ∧ w'.cell? ⟨gs, i, none⟩ = some (.slice (some ⟨gb, o2, none⟩) d d)) (ds := [15]) #[false, false, false, false, false, false, false, false, false, false, false, false, false, false, false, false] (by kernel_rfl) rfl rfl ⟨h1, h2, h3, h4⟩ (fun hHeld => ?_)
  refine pure_ (i := 0) (N := some 5) (v := ?_) (a' := ?_) #[true, false, false, false, false, false, false, false, false, false, false, false, false, false, false, false] rfl rfl (by kernel_rfl) (fun _ _ _ h => h) (Or.inl ⟨by rfl, ?_⟩) ?_ ?_
  rotate_left
  · intro w'
    go_simp
    with_reducible rfl
  rotate_left
  · simp only [Act.put, List.setIfInBounds_toArray, List.set_cons_zero, List.set_cons_succ, i64_w, i32_w]
    rfl
  refine pure_ (i := 1) (N := some 6) (v := ?_) (a' := ?_) #[true, true, false, false, false, false, false, false, false, false, false, false, false, false, false, false] rfl rfl (by kernel_rfl) (fun _ _ _ h => h) (Or.inl ⟨by rfl, ?_⟩) ?_ ?_
  rotate_left
  · intro w'
    go_simp
    with_reducible rfl
  rotate_left
  · simp only [Act.put, List.setIfInBounds_toArray, List.set_cons_zero, List.set_cons_succ, i64_w, i32_w]
    rfl
  refine pure_ (i := 2) (N := some 7) (v := ?_) (a' := ?_) #[true, true, true, false, false, false, false, false, false, false, false, false, false, false, false, false] rfl rfl (by kernel_rfl) (fun _ _ _ h => h) (Or.inl ⟨by rfl, ?_⟩) ?_ ?_
  rotate_left
  · intro w'
    go_simp
    with_reducible rfl
  rotate_left
  · simp only [Act.put, List.setIfInBounds_toArray, List.set_cons_zero, List.set_cons_succ, i64_w, i32_w]
    rfl
  refine pure_ (i := 4) (N := some 9) (v := ?_) (a' := ?_) #[true, true, true, false, true, false, false, false, false, false, false, false, false, false, false, false] rfl rfl (by kernel_rfl) (fun _ _ _ h => h) (Or.inl ⟨by rfl, ?_⟩) ?_ ?_
  rotate_left
  · intro w'
    go_simp
    with_reducible rfl
  rotate_left
  · simp only [Act.put, List.setIfInBounds_toArray, List.set_cons_zero, List.set_cons_succ, i64_w, i32_w]
    rfl
  refine pure_ (i := 7) (N := some 12) (v := ?_) (a' := ?_) #[true, true, true, false, true, false, false, true, false, false, false, false, false, false, false, false] rfl rfl (by kernel_rfl) (fun _ _ _ h => h) (Or.inl ⟨by rfl, ?_⟩) ?_ ?_
  rotate_left
  · intro w'
    go_simp
    with_reducible rfl
  rotate_left
  · simp only [Act.put, List.setIfInBounds_toArray, List.set_cons_zero, List.set_cons_succ, i64_w, i32_w]
    rfl
  refine pure_ (i := 8) (N := some 13) (v := ?_) (a' := ?_) #[true, true, true, false, true, false, false, true, true, false, false, false, false, false, false, false] rfl rfl (by kernel_rfl) (fun _ _ _ h => h) (Or.inl ⟨by rfl, ?_⟩) ?_ ?_
  rotate_left
  · intro w'
    go_simp
    with_reducible rfl
  rotate_left
  · simp only [Act.put, List.setIfInBounds_toArray, List.set_cons_zero, List.set_cons_succ, i64_w, i32_w]
    rfl
  refine pure_ (i := 9) (N := some 14) (v := ?_) (a' := ?_) #[true, true, true, false, true, false, false, true, true, true, false, false, false, false, false, false] rfl rfl (by kernel_rfl) (fun _ _ _ h => h) (Or.inl ⟨by rfl, ?_⟩) ?_ ?_
  rotate_left
  · intro w'
    go_simp
    with_reducible rfl
  rotate_left
  · simp only [Act.put, List.setIfInBounds_toArray, List.set_cons_zero, List.set_cons_succ, i64_w, i32_w]
    rfl
  refine pure_ (i := 11) (N := some 16) (v := ?_) (a' := ?_) #[true, true, true, false, true, false, false, true, true, true, false, true, false, false, false, false] rfl rfl (by kernel_rfl) (fun _ _ _ h => h) (Or.inl ⟨by rfl, ?_⟩) ?_ ?_
  rotate_left
  · intro w'
    go_simp
    with_reducible rfl
  rotate_left
  · simp only [Act.put, List.setIfInBounds_toArray, List.set_cons_zero, List.set_cons_succ, i64_w, i32_w]
    rfl
  refine take_ (i := 3) (N := some 8) (v := ?_) (a' := ?_) #[true, true, true, true, true, false, false, true, true, true, false, true, false, false, false, false] rfl rfl (by kernel_rfl) (fun _ _ _ h => h) (Or.inl ⟨by rfl, ?_⟩) hHeld ?_ ?_
  rotate_left
  · rintro w' ⟨s0, s1, s2, s3⟩
    go_simp
    with_reducible rfl
  rotate_left
  · simp only [Act.put, List.setIfInBounds_toArray, List.set_cons_zero, List.set_cons_succ, i64_w, i32_w]
    rfl
  refine pure_ (i := 5) (N := some 10) (v := ?_) (a' := ?_) #[true, true, true, true, true, true, false, true, true, true, false, true, false, false, false, false] rfl rfl (by kernel_rfl) (fun _ _ _ h => h) (Or.inl ⟨by rfl, ?_⟩) ?_ ?_
  rotate_left
  · intro w'
    go_simp
    with_reducible rfl
  rotate_left
  · simp only [Act.put, List.setIfInBounds_toArray, List.set_cons_zero, List.set_cons_succ, i64_w, i32_w]
    rfl
  refine take_ (i := 6) (N := some 11) (v := ?_) (a' := ?_) #[true, true, true, true, true, true, true, true, true, true, false, true, false, false, false, false] rfl rfl (by kernel_rfl) (fun _ _ _ h => h) (Or.inl ⟨by rfl, ?_⟩) hHeld ?_ ?_
  rotate_left
  · rintro w' ⟨s0, s1, s2, s3⟩
    go_simp
    with_reducible rfl
  rotate_left
  · simp only [Act.put, List.setIfInBounds_toArray, List.set_cons_zero, List.set_cons_succ, i64_w, i32_w]
    rfl
  refine take_ (i := 10) (N := some 15) (v := ?_) (a' := ?_) #[true, true, true, true, true, true, true, true, true, true, true, true, false, false, false, false] rfl rfl (by kernel_rfl) (fun _ _ _ h => h) (Or.inl ⟨by rfl, ?_⟩) hHeld ?_ ?_
  rotate_left
  · rintro w' ⟨s0, s1, s2, s3⟩
    go_simp
    with_reducible rfl
  rotate_left
  · simp only [Act.put, List.setIfInBounds_toArray, List.set_cons_zero, List.set_cons_succ, i64_w, i32_w]
    rfl
  refine pure_ (i := 12) (N := some 17) (v := ?_) (a' := ?_) #[true, true, true, true, true, true, true, true, true, true, true, true, true, false, false, false] rfl rfl (by kernel_rfl) (fun _ _ _ h => h) (Or.inl ⟨by rfl, ?_⟩) ?_ ?_
  rotate_left
  · intro w'
    go_simp
    with_reducible rfl
  rotate_left
  · simp only [Act.put, List.setIfInBounds_toArray, List.set_cons_zero, List.set_cons_succ, i64_w, i32_w]
    rfl
  refine take_ (i := 13) (N := some 18) (v := ?_) (a' := ?_) #[true, true, true, true, true, true, true, true, true, true, true, true, true, true, false, false] rfl rfl (by kernel_rfl) (fun _ _ _ h => h) (Or.inl ⟨by rfl, ?_⟩) hHeld ?_ ?_
  rotate_left
  · rintro w' ⟨s0, s1, s2, s3⟩
    go_simp
    with_reducible rfl
  rotate_left
  · simp only [Act.put, List.setIfInBounds_toArray, List.set_cons_zero, List.set_cons_succ, i64_w, i32_w]
    rfl
  refine pure_ (i := 14) (N := some 19) (v := ?_) (a' := ?_) #[true, true, true, true, true, true, true, true, true, true, true, true, true, true, true, false] rfl rfl (by kernel_rfl) (fun _ _ _ h => h) (Or.inl ⟨by rfl, ?_⟩) ?_ ?_
  rotate_left
  · intro w'
    rw [exec_build rfl (by simp only [List.map_toArray, List.map_cons, List.map_nil]; rfl) (hbd w')]
  rotate_left
  · simp only [Act.put, List.setIfInBounds_toArray, List.set_cons_zero, List.set_cons_succ, i64_w, i32_w]
    rfl
  refine last_ (i := 15) (N := none) #[true, true, true, true, true, true, true, true, true, true, true, true, true, true, true, true] rfl rfl (by kernel_rfl) (by decide) (fun K hK => ?_)
  refine skip_ (w1 := ?_) (by rfl) rfl ?_ ?_
  rotate_left
  · rw [exec_store 113 _ _ rfl ⟨w.heap.size, 0, none⟩ (by rfl) (.agg #[.slice (some ⟨ga, o1, none⟩) c c, .slice (some ⟨gb, o2, none⟩) d d]) (by rfl) hst]
  refine hK.out _ _ ?_
  clear hK K
  refine done_ (by kernel_rfl) ?_
  go_wp2
  have hbf : Below w.heap.size w (w.alloc (.cells #[.slice (some ⟨ga, o1, none⟩) c c, .slice (some ⟨gb, o2, none⟩) d d] 113)).drew := by
    have := (Below.refl w.heap.size w).alloc (Nat.le_refl _) (.cells #[.slice (some ⟨ga, o1, none⟩) c c, .slice (some ⟨gb, o2, none⟩) d d] 113)
    exact ⟨this.os, this.tape, this.output, this.size, this.block⟩
  refine bodyPost_ret (v := .agg #[.slice (some ⟨ga, o1, none⟩) c c, .slice (some ⟨gb, o2, none⟩) d d]) ?_ rfl ⟨rfl, hbf⟩
  rw [results_cell1 rfl]
  simp [asAddr, hres, Result.andThen]
end Go.Proofs.Ytoijjlpkoniipaa
