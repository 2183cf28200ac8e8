/- Joined out of texts of this claim: Blank, MatFns, MatCopy, MatBoth, MatScale, MatScaleW. Each says what it proves, and its conditions. -/
import Derived.Test.YtoijjlpkoniipaaRefR
import Derived.Test.YtoijjlpkoniipaaFld
import Derived.Deep.WholeRow
set_option linter.unusedVariables false
set_option linter.unusedSimpArgs false
section
/- Matrices in memory: their rows are cut from one list; the contract of blank. -/
namespace Go.Proofs.Ytoijjlpkoniipaa
open Go.RowKit Go.Proofs.YtoijjlpkoniipaaW.PrintWords Go.Proofs.YtoijjlpkoniipaaW.PrintLast Gf Lin
set_option linter.unusedSimpArgs false

/-- Each row has a place of its own. -/
def Perm (n : Nat) (p : Nat → Nat) : Prop := (∀ i, i < n → p i < n) ∧ ∀ i, i < n → ∀ k, k < n → p i = p k → i = k
/-- Block gm holds n rows of c bytes, cut from block ga, row i at place p i; they read as M. -/
structure Mat (w : World) (gm ga n c : Nat) (p : Nat → Nat) (M : Lin.M) : Prop where
  rows : ∀ i, i < n → w.cell? ⟨gm, i, none⟩ = some (.slice (some ⟨ga, p i * c, none⟩) c c)
  cells : ∀ i, i < n → ∀ j, j < c → w.cell? ⟨ga, p i * c + j, none⟩ = some (.int .u8 ((M i j).toNat : Int))
  fm : ∀ j, w.frozen? ⟨gm, j, none⟩ = false
  fa : ∀ j, w.frozen? ⟨ga, j, none⟩ = false
theorem place_inj {c a b j k : Nat} (hj : j < c) (hk : k < c) (h : a * c + j = b * c + k) : a = b ∧ j = k := by
  have h1 : (a * c + j) / c = a := by rw [Nat.mul_comm, Nat.mul_add_div (by omega), Nat.div_eq_of_lt hj, Nat.add_zero]
  have h2 : (b * c + k) / c = b := by rw [Nat.mul_comm, Nat.mul_add_div (by omega), Nat.div_eq_of_lt hk, Nat.add_zero]
  have : a = b := by rw [← h1, h, h2]
  subst this
  exact ⟨rfl, by omega⟩
theorem Mat.same {w w1 : World} {gm ga n c : Nat} {p : Nat → Nat} {M : Lin.M} (h : Mat w gm ga n c p M) (h1 : w1.heap[gm]? = w.heap[gm]?) (h2 : w1.heap[ga]? = w.heap[ga]?) : Mat w1 gm ga n c p M :=
  ⟨fun i hi => (World.cell?_of_block (a := ⟨gm, i, none⟩) h1).trans (h.rows i hi), fun i hi j hj => (World.cell?_of_block (a := ⟨ga, p i * c + j, none⟩) h2).trans (h.cells i hi j hj),
   fun j => (World.frozen?_of_block (a := ⟨gm, j, none⟩) h1).trans (h.fm j), fun j => (World.frozen?_of_block (a := ⟨ga, j, none⟩) h2).trans (h.fa j)⟩
theorem Mat.below {w w1 : World} {gm ga n c : Nat} {p : Nat → Nat} {M : Lin.M} (h : Mat w gm ga n c p M) (hm : gm < w.heap.size) (ha : ga < w.heap.size) (hb : Below w.heap.size w w1) : Mat w1 gm ga n c p M :=
  h.same (hb.block gm hm) (hb.block ga ha)
theorem Mat.congr {w : World} {gm ga n c : Nat} {p : Nat → Nat} {M M' : Lin.M} (h : Mat w gm ga n c p M) (he : ∀ i, i < n → ∀ j, j < c → M' i j = M i j) : Mat w gm ga n c p M' :=
  ⟨h.rows, fun i hi j hj => by rw [he i hi j hj]; exact h.cells i hi j hj, h.fm, h.fa⟩
theorem Mat.drewN {w : World} {gm ga n c : Nat} {p : Nat → Nat} {M : Lin.M} (h : Mat w gm ga n c p M) (k : Nat) : Mat (w.drewN k) gm ga n c p M := ⟨h.rows, h.cells, h.fm, h.fa⟩
/-- One byte written. -/
def updM (M : Lin.M) (i j : Nat) (v : UInt8) : Lin.M := fun a b => if a = i ∧ b = j then v else M a b
theorem Mat.set {w : World} {gm ga n c : Nat} {p : Nat → Nat} {M : Lin.M} (h : Mat w gm ga n c p M) (hp : Perm n p) (hne : gm ≠ ga) {i j : Nat} (hi : i < n) (hj : j < c) (v : UInt8) :
    Mat (w.setCell ⟨ga, p i * c + j, none⟩ (.int .u8 (v.toNat : Int))) gm ga n c p (updM M i j v) := by
  refine ⟨fun a ha => ?_, fun a ha b hb => ?_, fun a => by simpa using h.fm a, fun a => by simpa using h.fa a⟩
  · rw [World.cell?_setCell_other _ _ _ _ (fun e => hne (by injection e with e; exact e.symm))]; exact h.rows a ha
  · rw [set_at (h.cells i hi j hj)]
    unfold updM
    by_cases hq : a = i ∧ b = j
    · obtain ⟨rfl, rfl⟩ := hq
      rw [if_pos rfl, if_pos ⟨rfl, rfl⟩]
    · rw [if_neg hq, if_neg]
      · exact h.cells a ha b hb
      · intro e
        obtain ⟨e1, e2⟩ := place_inj hb hj e
        exact hq ⟨hp.2 a ha i hi e1, e2⟩
/-- A row exchanged for another one in its place. -/
theorem Mat.setRow {w : World} {gm ga n c : Nat} {p : Nat → Nat} {M : Lin.M} (h : Mat w gm ga n c p M) (hne : gm ≠ ga) {i k : Nat} (hi : i < n) (hk : k < n) :
    Mat (w.setCell ⟨gm, i, none⟩ (.slice (some ⟨ga, p k * c, none⟩) c c)) gm ga n c (fun a => if a = i then p k else p a) (fun a b => if a = i then M k b else M a b) := by
  refine ⟨fun a ha => ?_, fun a ha b hb => ?_, fun a => by simpa using h.fm a, fun a => by simpa using h.fa a⟩
  · rw [set_at (h.rows i hi)]
    by_cases hq : a = i
    · rw [if_pos hq, if_pos hq]
    · rw [if_neg hq, if_neg hq]; exact h.rows a ha
  · rw [World.cell?_setCell_other _ _ _ _ (fun e => hne (by injection e))]
    by_cases hq : a = i
    · rw [if_pos hq, if_pos hq]; exact h.cells k hk b hb
    · rw [if_neg hq, if_neg hq]; exact h.cells a ha b hb
/-- The rows as lists. -/
def rowsOf (n c : Nat) (M : Lin.M) : List (List UInt8) := (List.range n).map fun i => (List.range c).map (M i)
@[simp] theorem rowsOf_length (n c : Nat) (M : Lin.M) : (rowsOf n c M).length = n := by simp [rowsOf]
theorem gr_rowsOf {n c i : Nat} (M : Lin.M) (hi : i < n) : gr (rowsOf n c M) i = (List.range c).map (M i) := by
  rw [gr_at (by simp [hi])]; simp [rowsOf]
theorem gb_range {c j : Nat} (f : Nat → UInt8) (hj : j < c) : gb ((List.range c).map f) j = f j := by
  rw [gb_at (by simp [hj])]; simp
theorem Mat.row {w : World} {gm ga n c : Nat} {p : Nat → Nat} {M : Lin.M} (h : Mat w gm ga n c p M) (hc : c ≤ 9223372036854775807) {i : Nat} (hi : i < n) : KB.C w (some ⟨ga, p i * c, none⟩) c (bs ((List.range c).map (M i))) := by
  have := C_of_cells (w := w) (A := some ⟨ga, p i * c, none⟩) ((List.range c).map (M i)) (by simpa using hc) (fun _ => ⟨_, rfl, fun j hj => by
    have hj' : j < c := by simpa using hj
    rw [gb_range _ hj', ← h.cells i hi j hj']
    congr 1
    unfold Addr.add
    split
    · next e => subst e; rfl
    · rfl⟩)
  simpa using this
theorem Mat.reads {w : World} {gm ga n c : Nat} {p : Nat → Nat} {M : Lin.M} (h : Mat w gm ga n c p M) (hn : n ≤ 9223372036854775807) (hc : c ≤ 9223372036854775807) : KBB.C w (some ⟨gm, 0, none⟩) n (bss (rowsOf n c M)) := by
  have := CC_of_cells (w := w) (A := some ⟨gm, 0, none⟩) (rowsOf n c M) (by simpa using hn) (fun _ => ⟨⟨gm, 0, none⟩, rfl, fun j hj => by
    have hj' : j < n := by simpa using hj
    rw [gr_rowsOf _ hj', add_at]
    exact ⟨some ⟨ga, p j * c, none⟩, c, by rw [h.rows j hj']; simp, by simp, by simpa using h.row hc hj'⟩⟩)
  simpa using this
/-- Rows of one length are what they read as. -/
def fn (m : List (List UInt8)) : Lin.M := fun i j => gb (gr m i) j
theorem rowsOf_fn {m : List (List UInt8)} {c : Nat} (h : ∀ r ∈ m, r.length = c) : rowsOf m.length c (fn m) = m := by
  apply List.ext_getElem
  · simp
  · intro i h1 h2
    simp only [rowsOf, List.getElem_map, List.getElem_range]
    have hl := h m[i] (List.getElem_mem _)
    apply List.ext_getElem
    · simp [hl]
    · intro j h3 h4
      simp only [List.getElem_map, List.getElem_range, fn]
      rw [gr_at h2, gb_at h4]

theorem madeCells_bytes (n j : Nat) (h : j < n) : (madeCells #[Value.int .u8 0] n)[j]? = some (.int .u8 0) := by
  have := toList_madeCells_one (Value.int .u8 0) n
  rw [← Array.getElem?_toList, this, List.getElem?_replicate, if_pos h]
def cutRows (ga c k n : Nat) : List Value := (List.range n).map fun i => if i < k then .slice (some ⟨ga, i * c, none⟩) c c else .slice none 0 0
theorem cutRows_set (ga c k n : Nat) (hk : k < n) : (cutRows ga c k n).set k (.slice (some ⟨ga, k * c, none⟩) c c) = cutRows ga c (k + 1) n := by
  unfold cutRows
  apply List.ext_getElem
  · simp
  · intro j h1 h2
    simp only [List.getElem_set, List.getElem_map, List.getElem_range]
    by_cases hjk : k = j
    · rw [if_pos hjk, if_pos (by omega), hjk]
    · rw [if_neg hjk]
      by_cases hj : j < k
      · rw [if_pos hj, if_pos (by omega)]
      · rw [if_neg hj, if_neg (by omega)]
/-- The two blocks of a blank matrix. -/
structure Bm (w0 w : World) (n c k : Nat) : Prop where
  own : w.ownsRow w0.heap.size 35 1 (.slice (some ⟨w0.heap.size + 1, 0, none⟩) n n) n (cutRows w0.heap.size c k n)
  blk : w.heap[w0.heap.size]? = some (.cells (madeCells #[.int .u8 0] (n * c)) 5)
  bel : Below w0.heap.size w0 w
  size : w0.heap.size + 2 ≤ w.heap.size

set_option maxHeartbeats 2000000 in
set_option maxRecDepth 100000 in
theorem blank_calls (n c : Nat) (hn : n ≤ 255) (hc1 : 1 ≤ c) (hc : c ≤ 255) (w : World) :
    Calls Try.prog 72 #[.int .i64 (n : Int), .int .i64 (c : Int)] w fun e w' => e = .returned (.slice (some ⟨w.heap.size + 1, 0, none⟩) n n) ∧ Mat w' (w.heap.size + 1) w.heap.size n c id (fun _ _ => 0) ∧ Below w.heap.size w w' ∧ w.heap.size + 2 ≤ w'.heap.size := by
  obtain ⟨i5, hi5, hs5⟩ := Option.map_eq_some_iff.1 info5
  have hs5' : i5.size = 1 := by simp only [Prod.mk.injEq] at hs5; exact hs5.2.1
  have hnc : n * c ≤ 65025 := Nat.le_trans (Nat.mul_le_mul hn hc) (by omega)
  have hw : ∀ a b : Nat, a ≤ 256 → b ≤ 255 → wrap64 ((a : Int) * (b : Int)) = ((a * b : Nat) : Int) := fun a b ha hb => by
    have : a * b ≤ 65280 := Nat.le_trans (Nat.mul_le_mul ha hb) (by omega)
    rw [← Int.natCast_mul]; unfold wrap64; omega
  have hmk1 : ∀ W : World, (Instr.makeSlice 35 (.int .i64 ((n : Int) * (c : Int))) (.int .i64 ((n : Int) * (c : Int)))).run Try.prog W = .ok (.slice (some ⟨W.heap.size, 0, none⟩) (n * c) (n * c)) (W.alloc (.cells (madeCells #[.int .u8 0] (n * c)) 5)) := by
    rw [← Int.natCast_mul]
    exact print_make 35 5 .u8 1 Try.underlying35 info5 (by omega) (n * c) (by omega)
  have hmk2 : ∀ W : World, (Instr.makeSlice 36 (.int .i64 (n : Int)) (.int .i64 (n : Int))).run Try.prog W = .ok (.slice (some ⟨W.heap.size, 0, none⟩) n n) (W.alloc (.cells (madeCells #[.slice none 0 0] n) 35)) :=
    fun W => Go.run_make_row' 36 35 (.slice none 0 0) 24 Try.underlying36 (by kernel_rfl) rfl .i64 .i64 n (by omega) (by omega) W
  have hsl : ∀ (i : Nat), i < n → ∀ (W : World), (Instr.sliceAt 35 (.slice (some ⟨w.heap.size, 0, none⟩) (n * c) (n * c)) (some (.int .i64 ((i : Int) * (c : Int)))) (some (.int .i64 (((i : Int) + 1) * (c : Int)))) (some (.int .i64 (((i : Int) + 1) * (c : Int))))).run Try.prog W =
      .ok (.slice (some ⟨w.heap.size, i * c, none⟩) c c) W := by
    intro i hi W
    have hel : Try.prog.elem 35 = 5 := by simp [Program.elem, Try.underlying35]
    have hu : Try.prog.underlying 35 = some (.slice (Try.prog.elem 35)) := by rw [hel]; exact Try.underlying35
    have h2 : ((i : Int) + 1) = ((i + 1 : Nat) : Int) := by omega
    have h3 : (i + 1) * c ≤ n * c := Nat.mul_le_mul_right _ (by omega)
    have h4 : (i + 1) * c = i * c + c := Nat.succ_mul i c
    rw [h2, ← Int.natCast_mul, ← Int.natCast_mul]
    rw [run_sliceAt_slice W 35 _ _ _ _ hu, run_slice_lhm W 35 (some ⟨w.heap.size, 0, none⟩) (n * c) (n * c) hu .i64 .i64 .i64 _ _ _ (by omega) (by omega) (by omega) (by omega), hel]
    have h5 : ¬ ((i + 1) * c = i * c) := by omega
    have h6 : (i + 1) * c - i * c = c := by omega
    have h7 : (⟨w.heap.size, 0, none⟩ : Addr).add (i * c) = ⟨w.heap.size, i * c, none⟩ := add_at _ _
    simp only [sizeOf, typeInfo, hi5, Sem.run_bind, Sem.run_pure, Result.andThen, sliced, Int.toNat_natCast]
    simp [hi5, hs5', h5, h6, h7, Result.andThen]
  have b1 : Below w.heap.size w ((w.alloc (.cells (madeCells #[.int .u8 0] (n * c)) 5)).alloc (.cells (madeCells #[.slice none 0 0] n) 35)) := ((Below.refl _ _).alloc (Nat.le_refl _) _).alloc (by simp) _
  have m0 : Bm w ((w.alloc (.cells (madeCells #[.int .u8 0] (n * c)) 5)).alloc (.cells (madeCells #[.slice none 0 0] n) 35)) n c 0 := by
    refine ⟨?_, (Below.heap_alloc _ _ _ (by simp)).trans (heap_alloc_new w _), b1, by simp⟩
    have := World.ownsRow_lit (w.alloc (.cells (madeCells #[.int .u8 0] (n * c)) 5)) (madeCells #[.slice none 0 0] n) (e := 35) (size := 1) (base := w.heap.size) n (by simp) (by unfold maxLen; omega) (by have := congrArg List.length (toList_madeCells_one (Value.slice none 0 0) n); simpa using this)
    rw [toList_madeCells_one] at this
    have e : cutRows w.heap.size c 0 n = List.replicate n (.slice none 0 0) := by
      unfold cutRows
      apply List.ext_getElem
      · simp
      · intro j h1 h2; simp
    rw [e]
    simpa using this
  have M0 := Lib.hid m0
  have HW := Lib.hid hw
  have HSL := Lib.hid hsl
  clear hw hsl m0 b1 hs5 hs5' hi5
  go_enter Try.func72, Try.ntmps72
  go_wp2_with fail
  go_loopw [16] (fun i wr => ∃ k : Nat, k ≤ n ∧ i = .int .i64 k ∧ Bm w wr n c k) (fun i _ => n - (intOf i).toNat)
  case atStart => exact ⟨0, by omega, rfl, M0.out⟩
  case round =>
    obtain ⟨k, hk, rfl, hm⟩ := hrel
    by_cases hlt : k < n
    · have hsl := HSL.out k hlt
      have x1 := hm.own.cellAt k (by omega)
      have xl : (cutRows w.heap.size c k n).length = n := by simp [cutRows]
      rw [List.getElem?_eq_getElem (by omega)] at x1
      have x2 := hm.own.frozenAt k
      have x3 := hm.own.stored k (.slice (some ⟨w.heap.size, k * c, none⟩) c c)
      rw [cutRows_set _ _ _ _ hlt] at x3
      have hnew : Bm w (wr.setCell ⟨w.heap.size + 1, k, none⟩ (.slice (some ⟨w.heap.size, k * c, none⟩) c c)) n c (k + 1) :=
        ⟨x3.1, (Below.heap_setCell _ _ _ _ (by show w.heap.size ≠ w.heap.size + 1; omega)).trans hm.blk, Below.setCell hm.bel (by show w.heap.size ≤ w.heap.size + 1; omega) _, by simpa using hm.size⟩
      have HM := Lib.hid hnew
      have i1 : (0 : Int) ≤ (k : Int) := by omega
      have i2 : (k : Int) < (n : Int) := by omega
      have hw1 := HW.out k c (by omega) hc
      have hw2 := HW.out (k + 1) c (by omega) hc
      rw [show (((k + 1 : Nat)) : Int) = (k : Int) + 1 by omega] at hw2
      have hq1 : ((k : Int) * (c : Int)) = ((k * c : Nat) : Int) := (Int.natCast_mul k c).symm
      have hq2 : (((k : Int) + 1) * (c : Int)) = (((k + 1) * c : Nat) : Int) := by rw [Int.natCast_mul]; congr 1
      rw [hq1, hq2] at hsl
      obtain ⟨q, hq⟩ : ∃ q, q = k * c := ⟨_, rfl⟩
      obtain ⟨q2, hq3⟩ : ∃ q2, q2 = (k + 1) * c := ⟨_, rfl⟩
      rw [← hq, ← hq3] at hsl
      rw [← hq] at hw1 HM
      rw [← hq3] at hw2
      generalize (cutRows w.heap.size c k n)[k]'(by omega) = old at x1
      clear hmk1 hmk2 xl hm x3 hnew hq1 hq2 hq hq3
      go_wp2_with fail
      exact ⟨⟨k + 1, by omega, by go_num, HM.out⟩, by simp [intOf]; omega⟩
    · obtain rfl : k = n := by omega
      have hmat : Mat wr (w.heap.size + 1) w.heap.size k c id (fun _ _ => 0) := by
        refine ⟨fun i hi => ?_, fun i hi j hj => ?_, fun j => ?_, fun j => frozen_of_row _ _ j _ _ hm.blk⟩
        · have := hm.own.cells rfl i (.slice (some ⟨w.heap.size, i * c, none⟩) c c) (by simp [cutRows, hi])
          rwa [add_at] at this
        · rw [cell_of_row _ _ _ _ _ _ hm.blk, madeCells_bytes _ _ (by
            have : (i + 1) * c ≤ k * c := Nat.mul_le_mul_right _ (by omega)
            have h4 : (i + 1) * c = i * c + c := Nat.succ_mul i c
            show i * c + j < k * c
            omega)]
          rfl
        · rcases hm.own.2 with ⟨e, _⟩ | ⟨g, cap, cur, e, _, hg, _⟩
          · simp at e
          · simp only [Value.slice.injEq, Option.some.injEq, Addr.mk.injEq, and_true, true_and] at e
            rw [← e.1] at hg
            exact frozen_of_row _ _ j _ _ hg
      have HM := Lib.hid hmat
      have HB := Lib.hid hm.bel
      have HS := Lib.hid hm.size
      clear hmat hm
      go_wp2_with fail
      go_ret
      exact ⟨rfl, HM.out, HB.out, HS.out⟩
end Go.Proofs.Ytoijjlpkoniipaa
end
section
/- Matrices: within, Right, Unit. -/
namespace Go.Proofs.Ytoijjlpkoniipaa
open Go.RowKit Go.Proofs.YtoijjlpkoniipaaW.PrintWords Go.Proofs.YtoijjlpkoniipaaW.PrintLast Gf Lin
set_option linter.unusedSimpArgs false
theorem within_calls (a : Int) (w : World) : Calls Try.prog 73 #[.int .i64 a] w fun e w' => e = .returned (.bool (decide (1 ≤ a ∧ a ≤ 255))) ∧ w' = w := by
  by_cases h0 : 1 ≤ a
  · have t : decide (a ≥ 1) = true := by simp; omega
    by_cases h1 : a ≤ 255
    · have t1 : decide (a ≤ 255) = true := by simp; omega
      have t2 : decide (1 ≤ a ∧ a ≤ 255) = true := by simp; omega
      rw [t2]
      clear h0 h1
      go_enter Try.func73, Try.ntmps73
      go_wp2
      go_ret
      exact ⟨rfl, rfl⟩
    · have t1 : decide (a ≤ 255) = false := by simp; omega
      have t2 : decide (1 ≤ a ∧ a ≤ 255) = false := by simp; omega
      rw [t2]
      clear h0 h1
      go_enter Try.func73, Try.ntmps73
      go_wp2
      go_ret
      exact ⟨rfl, rfl⟩
  · have t : decide (a ≥ 1) = false := by simp; omega
    have t2 : decide (1 ≤ a ∧ a ≤ 255) = false := by simp; omega
    rw [t2]
    clear h0
    go_enter Try.func73, Try.ntmps73
    go_wp2
    go_ret
    exact ⟨rfl, rfl⟩
/-- Are rows a matrix? -/
structure Rgt (m : List (List UInt8)) : Prop where
  n1 : 1 ≤ m.length
  n2 : m.length ≤ 255
  c1 : 1 ≤ (gr m 0).length
  c2 : (gr m 0).length ≤ 255
  all : ∀ i, i < m.length → (gr m i).length = (gr m 0).length
set_option maxHeartbeats 1000000 in
theorem right_calls (A : Option Addr) (m : List (List UInt8)) (cap : Nat) (w : World) (hr : KBB.C w A m.length (bss m)) :
    Calls Try.prog 61 #[.slice A m.length cap] w fun e w' => ∃ b, e = .returned (.bool b) ∧ w' = w ∧ (b = true ↔ Rgt m) := by
  have hwn := within_calls (m.length : Int) w
  by_cases h1 : 1 ≤ m.length ∧ m.length ≤ 255
  · rw [show decide ((1 : Int) ≤ (m.length : Int) ∧ (m.length : Int) ≤ 255) = true by simp; omega] at hwn
    obtain ⟨ad, B, c, rfl, hcell, hcc, hrow⟩ := C_rowD hr (k := 0) (by omega)
    have hwn2 := within_calls ((gr m 0).length : Int) w
    have add0 : ad.add 0 = ad := by simp [Addr.add]
    rw [add0] at hcell
    by_cases h2 : 1 ≤ (gr m 0).length ∧ (gr m 0).length ≤ 255
    · rw [show decide ((1 : Int) ≤ ((gr m 0).length : Int) ∧ ((gr m 0).length : Int) ≤ 255) = true by simp; omega] at hwn2
      obtain ⟨n, hn⟩ : ∃ n, n = m.length := ⟨_, rfl⟩
      obtain ⟨q, hq⟩ : ∃ q, q = (gr m 0).length := ⟨_, rfl⟩
      have Hn := Lib.hid hn
      have Hq := Lib.hid hq
      have HR := Lib.hid hr
      have n1 : 1 ≤ n := by omega
      have n2 : n ≤ 255 := by omega
      have H2 := Lib.hid h2
      rw [← hn] at hwn ⊢
      rw [← hq] at hwn2 hcell
      have i1 : (0 : Int) < (n : Int) := by omega
      clear hn hq hr h1 h2 hcc hrow add0
      go_enter Try.func61, Try.ntmps61
      go_wp2_with fail
      refine hwn.mono ?_
      clear hwn
      rintro e w1 ⟨rfl, rfl⟩
      go_wp2_with fail
      refine hwn2.mono ?_
      clear hwn2
      rintro e w2 ⟨rfl, rfl⟩
      go_wp2_with fail
      go_loopw [19] (fun i wr => ∃ k : Nat, k ≤ n ∧ i = .int .i64 k ∧ wr = w2 ∧ ∀ j, j < k → (gr m j).length = q) (fun i _ => n - (intOf i).toNat)
      case atStart => exact ⟨0, by omega, rfl, rfl, fun j hj => by omega⟩
      case round =>
        obtain ⟨k, hk, rfl, rfl, hall⟩ := hrel
        by_cases hlt : k < n
        · obtain ⟨ad', B', c', hA, hcell', hcc', hrow'⟩ := C_rowD HR.out (k := k) (by have := Hn.out; omega)
          cases hA
          have HALL := Lib.hid hall
          have i2 : (0 : Int) ≤ (k : Int) := by omega
          have i3 : (k : Int) < (n : Int) := by omega
          obtain ⟨l, hl⟩ : ∃ l, l = (gr m k).length := ⟨_, rfl⟩
          rw [← hl] at hcell'
          have HL := Lib.hid hl
          clear hall hrow' hcc' hl
          by_cases heq : l = q
          · have t : ((l : Int) != (q : Int)) = false := by simp [heq]
            have HE := Lib.hid heq
            clear heq
            go_wp2_with fail
            refine ⟨⟨k + 1, by omega, by go_num, trivial, fun j hj => ?_⟩, by simp [intOf]; omega⟩
            by_cases hjk : j = k
            · rw [hjk, ← HL.out]; exact HE.out
            · exact HALL.out j (by omega)
          · have t : ((l : Int) != (q : Int)) = true := by simp; omega
            have HE := Lib.hid heq
            clear heq
            go_wp2_with fail
            go_ret
            refine ⟨false, rfl, rfl, ⟨fun h => (by cases h), fun h => absurd ?_ HE.out⟩⟩
            rw [HL.out, Hq.out]
            exact h.all k (by have := Hn.out; omega)
        · obtain rfl : k = n := by omega
          have HALL := Lib.hid hall
          clear hall
          go_wp2_with fail
          go_ret
          refine ⟨true, rfl, rfl, ⟨fun _ => ⟨by have := Hn.out; omega, by have := Hn.out; omega, H2.out.1, H2.out.2, fun i hi => ?_⟩, fun _ => rfl⟩⟩
          rw [← Hq.out]
          exact HALL.out i (by have := Hn.out; omega)
    · rw [show decide ((1 : Int) ≤ ((gr m 0).length : Int) ∧ ((gr m 0).length : Int) ≤ 255) = false by simp; omega] at hwn2
      obtain ⟨n, hn⟩ : ∃ n, n = m.length := ⟨_, rfl⟩
      obtain ⟨q, hq⟩ : ∃ q, q = (gr m 0).length := ⟨_, rfl⟩
      have H2 := Lib.hid h2
      rw [← hn] at hwn ⊢
      rw [← hq] at hwn2 hcell
      have i1 : (0 : Int) < (n : Int) := by omega
      clear hn hq hr h1 h2 hcc hrow add0
      go_enter Try.func61, Try.ntmps61
      go_wp2_with fail
      refine hwn.mono ?_
      clear hwn
      rintro e w1 ⟨rfl, rfl⟩
      go_wp2_with fail
      refine hwn2.mono ?_
      clear hwn2
      rintro e w2 ⟨rfl, rfl⟩
      go_wp2_with fail
      go_ret
      exact ⟨false, rfl, rfl, ⟨fun h => (by cases h), fun h => absurd ⟨h.c1, h.c2⟩ H2.out⟩⟩
  · rw [show decide ((1 : Int) ≤ (m.length : Int) ∧ (m.length : Int) ≤ 255) = false by simp; omega] at hwn
    have H1 := Lib.hid h1
    clear hr h1
    go_enter Try.func61, Try.ntmps61
    go_wp2_with fail
    refine hwn.mono ?_
    clear hwn
    rintro e w1 ⟨rfl, rfl⟩
    go_wp2_with fail
    go_ret
    exact ⟨false, rfl, rfl, ⟨fun h => (by cases h), fun h => absurd ⟨h.n1, h.n2⟩ H1.out⟩⟩
/-! ### The unit -/
theorem unit_set {k : Nat} {i j : Nat} : updM (fun a b => if a < k ∧ a = b then 1 else 0) k k 1 i j = (if i < k + 1 ∧ i = j then (1 : UInt8) else 0) := by
  unfold updM
  by_cases h1 : i = k ∧ j = k
  · rw [if_pos h1, if_pos ⟨by omega, by omega⟩]
  · rw [if_neg h1]
    show (if i < k ∧ i = j then (1 : UInt8) else 0) = _
    by_cases h2 : i < k ∧ i = j
    · rw [if_pos h2, if_pos ⟨by omega, h2.2⟩]
    · rw [if_neg h2, if_neg (by omega)]
theorem perm_id (n : Nat) : Perm n id := ⟨fun _ h => h, fun _ _ _ _ h => h⟩
set_option maxHeartbeats 1000000 in
set_option maxRecDepth 100000 in
theorem unit_calls (n : Nat) (h1 : 1 ≤ n) (hn : n ≤ 255) (w : World) :
    Calls Try.prog 59 #[.int .i64 (n : Int)] w fun e w' => e = .returned (.slice (some ⟨w.heap.size + 1, 0, none⟩) n n) ∧ Mat w' (w.heap.size + 1) w.heap.size n n id Lin.unit ∧ Below w.heap.size w w' ∧ w.heap.size + 2 ≤ w'.heap.size := by
  have hwn := within_calls (n : Int) w
  rw [show decide ((1 : Int) ≤ (n : Int) ∧ (n : Int) ≤ 255) = true by simp; omega] at hwn
  have hbl := blank_calls n n hn h1 hn w
  go_enter Try.func59, Try.ntmps59
  go_wp2_with fail
  refine hwn.mono ?_
  clear hwn
  rintro e w1 ⟨rfl, rfl⟩
  go_wp2_with fail
  refine hbl.mono ?_
  clear hbl
  rintro e w2 ⟨rfl, hm, hb, hs⟩
  have hm0 : Mat w2 (w1.heap.size + 1) w1.heap.size n n id (fun a b => if a < 0 ∧ a = b then 1 else 0) := hm.congr (fun i _ j _ => by rw [if_neg (by omega)])
  have HM := Lib.hid hm0
  have HB := Lib.hid hb
  have HS := Lib.hid hs
  clear hm hm0 hb hs
  go_wp2_with fail
  go_loopw [13] (fun i wr => ∃ k : Nat, k ≤ n ∧ i = .int .i64 k ∧ Mat wr (w1.heap.size + 1) w1.heap.size n n id (fun a b => if a < k ∧ a = b then 1 else 0) ∧ Below w1.heap.size w1 wr ∧ w1.heap.size + 2 ≤ wr.heap.size) (fun i _ => n - (intOf i).toNat)
  case atStart => exact ⟨0, by omega, rfl, HM.out, HB.out, HS.out⟩
  case round =>
    obtain ⟨k, hk, rfl, hm, hb, hs⟩ := hrel
    by_cases hlt : k < n
    · have c1 := hm.rows k hlt
      have c2 := hm.cells k hlt k hlt
      have f2 := hm.fa (k * n + k)
      simp only [id] at c1 c2
      have hset := hm.set (perm_id n) (by omega) hlt hlt 1
      have hset2 : Mat (wr.setCell ⟨w1.heap.size, k * n + k, none⟩ (.int .u8 1)) (w1.heap.size + 1) w1.heap.size n n id (fun a b => if a < k + 1 ∧ a = b then 1 else 0) := hset.congr (fun i _ j _ => unit_set.symm)
      have HM := Lib.hid hset2
      have HB := Lib.hid hb
      have HS := Lib.hid hs
      have i1 : (0 : Int) ≤ (k : Int) := by omega
      have i2 : (k : Int) < (n : Int) := by omega
      clear hm hset hset2 hb hs
      generalize ((if k < k ∧ k = k then (1 : UInt8) else 0).toNat : Int) = old at c2
      generalize hq : k * n = q at *
      have HQ := Lib.hid hq
      clear hq
      go_wp2_with fail
      exact ⟨⟨k + 1, by omega, by go_num, HM.out, Below.setCell HB.out (Nat.le_refl _) _, by simpa using HS.out⟩, by simp [intOf]; omega⟩
    · obtain rfl : k = n := by omega
      have hu : Mat wr (w1.heap.size + 1) w1.heap.size k k id Lin.unit := hm.congr (fun i hi j hj => by
        show Lin.unit i j = (if i < k ∧ i = j then (1 : UInt8) else 0)
        unfold Lin.unit
        by_cases hij : i = j
        · rw [if_pos hij, if_pos ⟨hi, hij⟩]
        · rw [if_neg hij, if_neg (by omega)])
      have HM := Lib.hid hu
      have HB := Lib.hid hb
      have HS := Lib.hid hs
      clear hm hu hb hs
      go_wp2_with fail
      go_ret
      exact ⟨rfl, HM.out, HB.out, HS.out⟩
theorem unit_bad (z : Int) (h : ¬ (1 ≤ z ∧ z ≤ 255)) (w : World) : Calls Try.prog 59 #[.int .i64 z] w fun e w' => e = .returned (.slice none 0 0) ∧ w' = w := by
  have hwn := within_calls z w
  rw [decide_eq_false h] at hwn
  clear h
  go_enter Try.func59, Try.ntmps59
  go_wp2_with fail
  refine hwn.mono ?_
  clear hwn
  rintro e w1 ⟨rfl, rfl⟩
  go_wp2_with fail
  go_ret
  exact ⟨rfl, rfl⟩
end Go.Proofs.Ytoijjlpkoniipaa
end
section
/- Matrices: one row written over; copied. -/
namespace Go.Proofs.Ytoijjlpkoniipaa
open Go.RowKit Go.Proofs.YtoijjlpkoniipaaW.PrintWords Go.Proofs.YtoijjlpkoniipaaW.PrintLast Gf Lin
set_option linter.unusedSimpArgs false
/-- Only blocks of F, and new ones, are other ones. -/
structure Chg (F : Nat → Prop) (w w' : World) : Prop where
  os : w'.os = w.os
  tape : w'.tape = w.tape
  output : w'.output = w.output
  size : w.heap.size ≤ w'.heap.size
  block : ∀ k, k < w.heap.size → ¬ F k → w'.heap[k]? = w.heap[k]?
theorem Chg.refl (F : Nat → Prop) (w : World) : Chg F w w := ⟨rfl, rfl, rfl, Nat.le_refl _, fun _ _ _ => rfl⟩
theorem Chg.of_below {F : Nat → Prop} {w w' : World} (h : Below w.heap.size w w') : Chg F w w' := ⟨h.os, h.tape, h.output, h.size, fun k hk _ => h.block k hk⟩
theorem Chg.set {F : Nat → Prop} {w : World} {a : Addr} {u : Value} (h : F a.block) : Chg F w (w.setCell a u) :=
  ⟨rfl, rfl, rfl, by simp, fun k _ hk => Below.heap_setCell w _ u k (fun e => hk (by rw [e]; exact h))⟩
theorem Chg.trans {F F' : Nat → Prop} {w w1 w2 : World} (h : Chg F w w1) (k : Chg F' w1 w2) (hF : ∀ i, F' i → F i ∨ w.heap.size ≤ i) : Chg F w w2 :=
  ⟨k.os.trans h.os, k.tape.trans h.tape, k.output.trans h.output, Nat.le_trans h.size k.size, fun i hi hf => (k.block i (Nat.lt_of_lt_of_le hi h.size) (fun e => (hF i e).elim hf (fun q => by omega))).trans (h.block i hi hf)⟩
theorem Chg.below {F : Nat → Prop} {B : Nat} {w0 w w' : World} (h : Chg F w w') (hb : Below B w0 w) (hB : B ≤ w.heap.size) (hF : ∀ i, F i → B ≤ i) : Below B w0 w' :=
  hb.trans ⟨h.os, h.tape, h.output, h.size, fun i hi => h.block i (by omega) (fun e => by have := hF i e; omega)⟩
theorem setCells_chg {g : Nat} : ∀ (vs : List Value) (o : Nat) (w : World), Chg (fun i => i = g) w (w.setCells g o vs) ∧ (w.setCells g o vs).heap.size = w.heap.size
  | [], o, w => ⟨Chg.refl _ _, rfl⟩
  | v :: vs, o, w => by
    obtain ⟨h1, h2⟩ := setCells_chg (g := g) vs (o + 1) (w.setCell ⟨g, o, none⟩ v)
    exact ⟨(Chg.set (F := fun i => i = g) rfl).trans h1 (fun i hi => .inl hi), h2.trans (by simp)⟩
theorem exec_copy {P : Program} {w w' : World} {ρ : Operand → Value} {o : Oper} {t tn : TypeId} {x y : Operand} {vx vy v : Value} (ho : o.op = .call { callee := .builtin .copy, args := #[x, y], argTypes := #[t, tn] }) (hx : ρ x = vx) (hy : ρ y = vy) (hr : (Builtin.copy_ #[t, tn] o.type #[vx, vy]).run P w = .ok v w') : (execOp ρ o).run P w = .ok (.value v) w' := by
  unfold execOp
  simp only [ho, resolve, invoke, builtin, Sem.run_bind, Sem.run_pure, Result.andThen_ok, List.map_toArray, List.map_cons, List.map_nil, hx, hy, hr]
/-- A row written over by bytes. -/
theorem Mat.copyRow {w : World} {gm ga n c : Nat} {p : Nat → Nat} {M : Lin.M} (h : Mat w gm ga n c p M) (hp : Perm n p) (hne : gm ≠ ga) {i : Nat} (hi : i < n) {B : Option Addr} {cB : Nat} {ys : List UInt8} (hy : KB.C w B c (bs ys)) (hc1 : 1 ≤ c) (ty : TypeId) :
    ∃ w', (Builtin.copy_ #[35, 35] ty #[.slice (some ⟨ga, p i * c, none⟩) c c, .slice B c cB]).run Try.prog w = .ok (goInt c) w' ∧ Mat w' gm ga n c p (fun a b => if a = i then gb ys b else M a b) ∧ Chg (fun k => k = ga) w w' ∧ w'.heap.size = w.heap.size := by
  have hyl := C_len hy
  obtain ⟨ad, rfl, _⟩ := C_byteD hy (k := 0) (by omega)
  have hcs : ∀ j (v : Value), (ys.map fun x : UInt8 => Value.int .u8 (x.toNat : Int))[j]? = some v → w.cell? (ad.add j) = some v := fun j v hj => by
    rw [List.getElem?_map] at hj
    obtain ⟨x, hx, rfl⟩ := Option.map_eq_some_iff.1 hj
    have hjl := (List.getElem?_eq_some_iff.1 hx).1
    obtain ⟨ad', e, hc⟩ := C_byteD hy (k := j) (by omega)
    cases e
    rw [hc, gb_at hjl, (List.getElem?_eq_some_iff.1 hx).2]
  have hl : (ys.map fun x : UInt8 => Value.int .u8 (x.toNat : Int)).length = c := by simp [hyl]
  have hrun := run_copy_cells (P := Try.prog) w 35 35 ty 5 ga (p i * c) c c ad c cB (ys.map fun x : UInt8 => Value.int .u8 (x.toNat : Int)) Try.underlying35 (by kernel_rfl) (by rw [hl]; exact (Nat.min_self c).symm) hcs
    (fun j hj => by rw [h.cells i hi j (by omega)]; rfl) (fun j _ => h.fa _) (by simp [Value.oneCell'])
  rw [hl] at hrun
  obtain ⟨k1, k2⟩ := setCells_chg (g := ga) (ys.map fun x : UInt8 => Value.int .u8 (x.toNat : Int)) (p i * c) w
  refine ⟨_, hrun, ⟨fun a ha => ?_, fun a ha b hb => ?_, fun j => ?_, fun j => ?_⟩, k1, k2⟩
  · rw [World.cell?_setCells_out _ _ _ _ _ (fun e => absurd e hne)]; exact h.rows a ha
  · by_cases hai : a = i
    · subst hai
      rw [if_pos rfl, World.cell?_setCells_in _ _ _ _ (fun j hj => by rw [h.cells a hi j (by omega)]; rfl) b (by omega)]
      simp [gb_at (show b < ys.length by omega)]
    · rw [if_neg hai, World.cell?_setCells_out _ _ _ _ _ (fun _ _ => ?_)]
      · exact h.cells a ha b hb
      · show p a * c + b < p i * c ∨ p i * c + (ys.map _).length ≤ p a * c + b
        rw [hl]
        have hpne : p a ≠ p i := fun e => hai (hp.2 a ha i hi e)
        rcases Nat.lt_or_ge (p a) (p i) with hlt | hge
        · left
          have : (p a + 1) * c ≤ p i * c := Nat.mul_le_mul_right _ (by omega)
          have h4 : (p a + 1) * c = p a * c + c := Nat.succ_mul _ c
          omega
        · right
          have : (p i + 1) * c ≤ p a * c := Nat.mul_le_mul_right _ (by omega)
          have h4 : (p i + 1) * c = p i * c + c := Nat.succ_mul _ c
          omega
  · rw [World.frozen?_setCells]; exact h.fm j
  · rw [World.frozen?_setCells]; exact h.fa j
theorem Rgt.fn {m : List (List UInt8)} (h : Rgt m) : rowsOf m.length (gr m 0).length (Ytoijjlpkoniipaa.fn m) = m := rowsOf_fn fun r hr => by
  obtain ⟨i, hi, rfl⟩ := List.getElem_of_mem hr
  rw [← gr_at hi]; exact h.all i hi
set_option maxHeartbeats 2000000 in
set_option maxRecDepth 100000 in
theorem copied_calls (A : Option Addr) (m : List (List UInt8)) (cap : Nat) (w : World) (hr : KBB.C w A m.length (bss m)) (hm : Rgt m) :
    Calls Try.prog 70 #[.slice A m.length cap] w fun e w' => e = .returned (.slice (some ⟨w.heap.size + 1, 0, none⟩) m.length m.length) ∧ Mat w' (w.heap.size + 1) w.heap.size m.length (gr m 0).length id (fn m) ∧ Below w.heap.size w w' ∧ w.heap.size + 2 ≤ w'.heap.size := by
  obtain ⟨ad, B0, c0, rfl, hcell, hcc, _⟩ := C_rowD hr (k := 0) (by have := hm.n1; omega)
  have add0 : ad.add 0 = ad := by simp [Addr.add]
  rw [add0] at hcell
  have hbl := blank_calls m.length (gr m 0).length hm.n2 hm.c1 hm.c2 w
  obtain ⟨n, hn⟩ : ∃ n, n = m.length := ⟨_, rfl⟩
  obtain ⟨c, hc⟩ : ∃ c, c = (gr m 0).length := ⟨_, rfl⟩
  have n2 : n ≤ 255 := by have := hm.n2; omega
  have n1 : 1 ≤ n := by have := hm.n1; omega
  have c1 : 1 ≤ c := by have := hm.c1; omega
  have Hn := Lib.hid hn
  have Hc := Lib.hid hc
  have HR := Lib.hid hr
  have HM := Lib.hid hm
  rw [← hn, ← hc] at hbl
  rw [← hc] at hcell
  rw [← hn, ← hc]
  have i0 : (0 : Int) < (n : Int) := by omega
  clear hn hc hr hm hcc add0
  go_enter Try.func70, Try.ntmps70
  go_wp2_with fail
  refine hbl.mono ?_
  clear hbl
  rintro e w1 ⟨rfl, hmat, hb, hs⟩
  have hm0 : Mat w1 (w.heap.size + 1) w.heap.size n c id (fun a b => if a < 0 then fn m a b else 0) := hmat.congr (fun i _ j _ => by rw [if_neg (by omega)])
  obtain ⟨gm, hgm⟩ : ∃ gm, gm = w.heap.size + 1 := ⟨_, rfl⟩
  obtain ⟨ga, hga⟩ : ∃ ga, ga = w.heap.size := ⟨_, rfl⟩
  rw [← hgm, ← hga] at hm0
  rw [← hgm]
  have hne : gm ≠ ga := by omega
  have HGM := Lib.hid hgm
  have HGA := Lib.hid hga
  have HM0 := Lib.hid hm0
  have HB := Lib.hid hb
  have HS := Lib.hid hs
  clear hmat hm0 hb hs hgm hga
  go_wp2_with fail
  go_loopw [14] (fun i wr => ∃ k : Nat, k ≤ n ∧ i = .int .i64 k ∧ Mat wr gm ga n c id (fun a b => if a < k then fn m a b else 0) ∧ Below w.heap.size w wr ∧ w.heap.size + 2 ≤ wr.heap.size) (fun i _ => n - (intOf i).toNat)
  case atStart => exact ⟨0, by omega, rfl, HM0.out, HB.out, HS.out⟩
  case round =>
    obtain ⟨k, hk, rfl, hmt, hb, hs⟩ := hrel
    by_cases hlt : k < n
    · obtain ⟨ad', B, cB, e, hcl, hcc, hrow⟩ := C_rowD (Kd.C_below HR.out hb) (k := k) (by have := Hn.out; omega)
      cases e
      have hlen := HM.out.all k (by have := Hn.out; omega)
      rw [hlen, ← Hc.out] at hcl hrow
      have hmd : Mat wr.drew gm ga n c id (fun a b => if a < k then fn m a b else 0) := ⟨hmt.rows, hmt.cells, hmt.fm, hmt.fa⟩
      have hrd : KB.C wr.drew B c (bs (gr m k)) := Kd.C_below hrow ⟨rfl, rfl, rfl, Nat.le_refl _, fun _ _ => rfl⟩
      obtain ⟨w5, hcp, hm5, hc5, hs5⟩ := hmd.copyRow (perm_id n) hne hlt (cB := cB) hrd c1 3
      have hm6 : Mat w5 gm ga n c id (fun a b => if a < k + 1 then fn m a b else 0) := hm5.congr (fun i hi j hj => by
        by_cases hik : i = k
        · subst hik; rw [if_pos (by omega), if_pos rfl]; rfl
        · rw [if_neg hik]
          by_cases h : i < k
          · rw [if_pos h, if_pos (by omega)]
          · rw [if_neg h, if_neg (by omega)])
      have hb6 : Below w.heap.size w w5 := hc5.below (B := w.heap.size) ⟨hb.os, hb.tape, hb.output, hb.size, hb.block⟩ hb.size (fun i e => by have := HGA.out; omega)
      have hs6 : w.heap.size + 2 ≤ w5.heap.size := by rw [hs5]; exact hs
      obtain ⟨q, hq⟩ : ∃ q, q = k * c := ⟨_, rfl⟩
      have ha : wr.drew.cell? ⟨gm, k, none⟩ = some (.slice (some ⟨ga, q, none⟩) c c) := by rw [hq]; exact hmt.rows k hlt
      have hb' : wr.drew.cell? (ad.add k) = some (.slice B c cB) := hcl
      rw [show id k * c = q from hq.symm] at hcp
      have HM6 := Lib.hid hm6
      have HB6 := Lib.hid hb6
      have HS6 := Lib.hid hs6
      have i1 : (0 : Int) ≤ (k : Int) := by omega
      have i2 : (k : Int) < (n : Int) := by omega
      clear hmt hmd hrd hrow hcc hlen hm5 hc5 hs5 hm6 hb6 hs6 hq hb hs hcl
      go_wp2
      refine start_ (n := 9) (S := fun w' => w'.cell? ⟨gm, k, none⟩ = some (.slice (some ⟨ga, q, none⟩) c c) ∧ w'.cell? (ad.add k) = some (.slice B c cB)) (ds := [8]) #[false, false, false, false, false, false, false, false, false] (by kernel_rfl) rfl rfl ⟨ha, hb'⟩ (fun hHeld => ?_)
      refine pure_ (i := 0) (N := some 17) (v := ?_) (a' := ?_) #[true, false, false, false, false, false, false, false, false] rfl rfl (by kernel_rfl) (fun _ _ _ h => h) (Or.inl ⟨by rfl, ?_⟩) ?_ ?_
      rotate_left
      · intro w'
        go_simp
        with_reducible rfl
      rotate_left
      · simp only [Act.put, List.setIfInBounds_toArray, List.set_cons_zero, List.set_cons_succ, i64_w, i32_w]
        rfl
      refine pure_ (i := 1) (N := some 18) (v := ?_) (a' := ?_) #[true, true, false, false, false, false, false, false, false] rfl rfl (by kernel_rfl) (fun _ _ _ h => h) (Or.inl ⟨by rfl, ?_⟩) ?_ ?_
      rotate_left
      · intro w'
        go_simp
        with_reducible rfl
      rotate_left
      · simp only [Act.put, List.setIfInBounds_toArray, List.set_cons_zero, List.set_cons_succ, i64_w, i32_w]
        rfl
      refine pure_ (i := 2) (N := some 19) (v := ?_) (a' := ?_) #[true, true, true, false, false, false, false, false, false] rfl rfl (by kernel_rfl) (fun _ _ _ h => h) (Or.inl ⟨by rfl, ?_⟩) ?_ ?_
      rotate_left
      · intro w'
        go_simp
        with_reducible rfl
      rotate_left
      · simp only [Act.put, List.setIfInBounds_toArray, List.set_cons_zero, List.set_cons_succ, i64_w, i32_w]
        rfl
      refine pure_ (i := 4) (N := some 21) (v := ?_) (a' := ?_) #[true, true, true, false, true, false, false, false, false] rfl rfl (by kernel_rfl) (fun _ _ _ h => h) (Or.inl ⟨by rfl, ?_⟩) ?_ ?_
      rotate_left
      · intro w'
        go_simp
        with_reducible rfl
      rotate_left
      · simp only [Act.put, List.setIfInBounds_toArray, List.set_cons_zero, List.set_cons_succ, i64_w, i32_w]
        rfl
      refine pure_ (i := 5) (N := some 22) (v := ?_) (a' := ?_) #[true, true, true, false, true, true, false, false, false] rfl rfl (by kernel_rfl) (fun _ _ _ h => h) (Or.inl ⟨by rfl, ?_⟩) ?_ ?_
      rotate_left
      · intro w'
        go_simp
        with_reducible rfl
      rotate_left
      · simp only [Act.put, List.setIfInBounds_toArray, List.set_cons_zero, List.set_cons_succ, i64_w, i32_w]
        rfl
      refine pure_ (i := 6) (N := some 23) (v := ?_) (a' := ?_) #[true, true, true, false, true, true, true, false, false] rfl rfl (by kernel_rfl) (fun _ _ _ h => h) (Or.inl ⟨by rfl, ?_⟩) ?_ ?_
      rotate_left
      · intro w'
        go_simp
        with_reducible rfl
      rotate_left
      · simp only [Act.put, List.setIfInBounds_toArray, List.set_cons_zero, List.set_cons_succ, i64_w, i32_w]
        rfl
      refine take_ (i := 3) (N := some 20) (v := ?_) (a' := ?_) #[true, true, true, true, true, true, true, false, false] rfl rfl (by kernel_rfl) (fun _ _ _ h => h) (Or.inl ⟨by rfl, ?_⟩) hHeld ?_ ?_
      rotate_left
      · rintro w' ⟨s0, s1⟩
        go_simp
        with_reducible rfl
      rotate_left
      · simp only [Act.put, List.setIfInBounds_toArray, List.set_cons_zero, List.set_cons_succ, i64_w, i32_w]
        rfl
      refine take_ (i := 7) (N := some 24) (v := ?_) (a' := ?_) #[true, true, true, true, true, true, true, true, false] rfl rfl (by kernel_rfl) (fun _ _ _ h => h) (Or.inl ⟨by rfl, ?_⟩) hHeld ?_ ?_
      rotate_left
      · rintro w' ⟨s0, s1⟩
        go_simp
        with_reducible rfl
      rotate_left
      · simp only [Act.put, List.setIfInBounds_toArray, List.set_cons_zero, List.set_cons_succ, i64_w, i32_w]
        rfl
      refine last_ (i := 8) (N := some 25) #[true, true, true, true, true, true, true, true, true] rfl rfl (by kernel_rfl) (by decide) (fun K hK => ?_)
      refine value_ (w1 := ?_) (v := ?_) (by rfl) rfl ?_ ?_
      rotate_left 2
      · rw [exec_copy rfl (by rfl) (by rfl) hcp]
      refine hK.out _ _ ?_
      clear hK K
      refine norm_ (a' := ?_) ?_ ?_
      rotate_left
      · show Act.put _ (some 25) _ = _
        simp only [Act.put, List.setIfInBounds_toArray, List.set_cons_zero, List.set_cons_succ, i64_w, i32_w]
        rfl
      refine done_ (by kernel_rfl) ?_
      go_wp2
      exact ⟨⟨k + 1, by omega, by go_num, HM6.out, HB6.out, HS6.out⟩, by simp [intOf]; omega⟩
    · obtain rfl : k = n := by omega
      have hfin : Mat wr gm ga k c id (fn m) := hmt.congr (fun i hi j hj => by rw [if_pos hi])
      rw [HGM.out, HGA.out] at hfin
      have HF := Lib.hid hfin
      have HB := Lib.hid hb
      have HS := Lib.hid hs
      have HGM2 := HGM.out
      subst HGM2
      clear hmt hfin hb hs
      go_wp2_with fail
      go_ret
      exact ⟨rfl, HF.out, HB.out, HS.out⟩
end Go.Proofs.Ytoijjlpkoniipaa
end
section
/- Matrices: a matrix and one beside it; a row of both. -/
namespace Go.Proofs.Ytoijjlpkoniipaa
open Go.RowKit Go.Proofs.YtoijjlpkoniipaaW.PrintWords Go.Proofs.YtoijjlpkoniipaaW.PrintLast Gf Lin
set_option linter.unusedSimpArgs false
theorem exec_store {P : Program} {w w' : World} {ρ : Operand → Value} {o : Oper} (ty : TypeId) (x y : Operand) (ho : o.op = .store ty x y) (ad : Addr) (hx : ρ x = .pointer (some ad)) (v : Value) (hy : ρ y = v) (hr : (storeVar ty ad v).run P w = .ok () w') : (execOp ρ o).run P w = .ok .skip w' := by
  unfold execOp
  simp only [ho, hx, hy, Instr.storeAt, Instr.sureAddr, Sem.run_bind, Sem.run_pure, Result.andThen_ok, hr]
theorem exec_build {P : Program} {w : World} {ρ : Operand → Value} {o : Oper} {t : TypeId} {ps : Array (Nat × Operand)} {parts : Array (Nat × Value)} {v : Value} (ho : o.op = .build t ps) (hp : (ps.map fun (i, x) => (i, ρ x)) = parts) (hr : (Instr.build t parts).run P w = .ok v w) : (execOp ρ o).run P w = .ok (.value v) w := by
  unfold execOp
  simp only [ho, hp, Sem.run_bind, Sem.run_pure, Result.andThen_ok, hr]
theorem results_cell1 {fn : Func} {p : Tmp} {ty : TypeId} (h : fn.results = #[.cell p ty]) (tmps : Array Value) (P : Program) (w : World) :
    (results fn tmps).run P w = ((asAddr (tmps.getD p undef)).run P w).andThen fun a w₁ => (loadVar ty a).run P w₁ := by
  simp only [results, h]
  simp [Sem.run_bind, Result.andThen]
theorem info113 : (Try.prog.info? 113).map (fun i => (i.zero, i.size)) = some (some (.agg #[.slice none 0 0, .slice none 0 0]), 2) := by kernel_rfl
theorem info35 : (Try.prog.info? 35).map (fun i => (i.zero, i.size, i.bytes)) = some (some (.slice none 0 0), 1, 24) := by kernel_rfl
theorem build_both (A B : Option Addr) (c c' d d' : Nat) (W : World) : (Instr.build 113 #[(0, .slice A c c'), (1, .slice B d d')]).run Try.prog W = .ok (.agg #[.slice A c c', .slice B d d']) W := by
  obtain ⟨i0, hi, h0⟩ := Option.map_eq_some_iff.1 info113
  simp only [Prod.mk.injEq] at h0
  obtain ⟨i1, hi1, h1⟩ := Option.map_eq_some_iff.1 info35
  simp only [Prod.mk.injEq] at h1
  have hzv : (zeroValue 113).run Try.prog W = .ok (.agg #[.slice none 0 0, .slice none 0 0]) W := by simp [zeroValue, typeInfo, hi, h0.1]
  have h35 : (sizeOf 35).run Try.prog W = .ok 1 W := by simp [sizeOf, typeInfo, hi1, h1.2.1]
  simp only [Instr.build, Sem.run_bind, hzv, Result.andThen, run_underlying Try.underlying113, h35]
  rfl
/-- A matrix that is worked on, and one beside it. -/
structure Wk (w : World) (g gt gm ga gs gb n c d : Nat) (p q : Nat → Nat) (M S : Lin.M) : Prop where
  blk : w.heap[g]? = some (.cells #[.pointer (some ⟨gt, 0, none⟩), .slice (some ⟨gm, 0, none⟩) n n, .slice (some ⟨gs, 0, none⟩) n n] 102)
  tab : Tab w gt
  m : Mat w gm ga n c p M
  s : Mat w gs gb n d q S
  pp : Perm n p
  pq : Perm n q
  ne1 : gm ≠ ga ∧ gs ≠ gb ∧ gm ≠ gs ∧ gm ≠ gb ∧ ga ≠ gs ∧ ga ≠ gb
  ne2 : g ≠ gm ∧ g ≠ ga ∧ g ≠ gs ∧ g ≠ gb
  ne3 : gt ≠ gm ∧ gt ≠ ga ∧ gt ≠ gs ∧ gt ≠ gb
  lt : gt < w.heap.size ∧ gm < w.heap.size ∧ ga < w.heap.size ∧ gs < w.heap.size ∧ gb < w.heap.size
  n1 : 1 ≤ n ∧ n ≤ 255
  c1 : 1 ≤ c ∧ c ≤ 255
  d1 : 1 ≤ d ∧ d ≤ 255
/-- The blocks that turn. -/
def WF (gm ga gs gb : Nat) (i : Nat) : Prop := i = gm ∨ i = ga ∨ i = gs ∨ i = gb
theorem Wk.glt {w : World} {g gt gm ga gs gb n c d : Nat} {p q : Nat → Nat} {M S : Lin.M} (h : Wk w g gt gm ga gs gb n c d p q M S) : g < w.heap.size := (Array.getElem?_eq_some_iff.1 h.blk).1
theorem tab_same {w w1 : World} {gt : Nat} (h : Tab w gt) (hb : w1.heap[gt]? = w.heap[gt]?) : Tab w1 gt :=
  ⟨fun i hi => (World.cell?_of_block (a := ⟨gt, i, none⟩) hb).trans (h.1 i hi), fun a => (World.cell?_of_block (a := ⟨gt, 510 + a.toNat, none⟩) hb).trans (h.2 a)⟩
theorem Wk.below {w w1 : World} {g gt gm ga gs gb n c d : Nat} {p q : Nat → Nat} {M S : Lin.M} (h : Wk w g gt gm ga gs gb n c d p q M S) (hb : Below w.heap.size w w1) : Wk w1 g gt gm ga gs gb n c d p q M S :=
  ⟨(hb.block g h.glt).trans h.blk, tab_same h.tab (hb.block gt h.lt.1), h.m.same (hb.block gm h.lt.2.1) (hb.block ga h.lt.2.2.1), h.s.same (hb.block gs h.lt.2.2.2.1) (hb.block gb h.lt.2.2.2.2), h.pp, h.pq, h.ne1, h.ne2, h.ne3, by have := hb.size; have := h.lt; omega, h.n1, h.c1, h.d1⟩
theorem Wk.c0 {w : World} {g gt gm ga gs gb n c d : Nat} {p q : Nat → Nat} {M S : Lin.M} (h : Wk w g gt gm ga gs gb n c d p q M S) : w.cell? ⟨g, 0, none⟩ = some (.pointer (some ⟨gt, 0, none⟩)) := (cell_of_row _ g 0 _ _ _ h.blk).trans rfl
theorem Wk.c1' {w : World} {g gt gm ga gs gb n c d : Nat} {p q : Nat → Nat} {M S : Lin.M} (h : Wk w g gt gm ga gs gb n c d p q M S) : w.cell? ⟨g, 1, none⟩ = some (.slice (some ⟨gm, 0, none⟩) n n) := (cell_of_row _ g 1 _ _ _ h.blk).trans rfl
theorem Wk.c2 {w : World} {g gt gm ga gs gb n c d : Nat} {p q : Nat → Nat} {M S : Lin.M} (h : Wk w g gt gm ga gs gb n c d p q M S) : w.cell? ⟨g, 2, none⟩ = some (.slice (some ⟨gs, 0, none⟩) n n) := (cell_of_row _ g 2 _ _ _ h.blk).trans rfl
theorem Wk.congr {w : World} {g gt gm ga gs gb n c d : Nat} {p q : Nat → Nat} {M S M' S' : Lin.M} (h : Wk w g gt gm ga gs gb n c d p q M S) (hm : ∀ i, i < n → ∀ j, j < c → M' i j = M i j) (hs : ∀ i, i < n → ∀ j, j < d → S' i j = S i j) : Wk w g gt gm ga gs gb n c d p q M' S' :=
  { h with m := h.m.congr hm, s := h.s.congr hs }
theorem Wk.drw {w : World} {g gt gm ga gs gb n c d : Nat} {p q : Nat → Nat} {M S : Lin.M} (h : Wk w g gt gm ga gs gb n c d p q M S) : Wk w.drew g gt gm ga gs gb n c d p q M S := h.below ⟨rfl, rfl, rfl, Nat.le_refl _, fun _ _ => rfl⟩
def bothV (gm ga gs gb c d o1 o2 : Nat) : Value := .agg #[.slice (some ⟨ga, o1, none⟩) c c, .slice (some ⟨gb, o2, none⟩) d d]
set_option maxHeartbeats 2000000 in
set_option maxRecDepth 100000 in
theorem both_calls {w : World} {g gt gm ga gs gb n c d : Nat} {p q : Nat → Nat} {M S : Lin.M} (h : Wk w g gt gm ga gs gb n c d p q M S) {i : Nat} (hi : i < n) :
    Calls Try.prog 82 #[.pointer (some ⟨g, 0, none⟩), .int .i64 (i : Int)] w fun e w' => e = .returned (.agg #[.slice (some ⟨ga, p i * c, none⟩) c c, .slice (some ⟨gb, q i * d, none⟩) d d]) ∧ Below w.heap.size w w' := by
  obtain ⟨o1, ho1⟩ : ∃ o1, o1 = p i * c := ⟨_, rfl⟩
  obtain ⟨o2, ho2⟩ : ∃ o2, o2 = q i * d := ⟨_, rfl⟩
  have hb1 : Below w.heap.size w (w.alloc (.cells #[.slice none 0 0, .slice none 0 0] 113)).drew := by
    have := (Below.refl w.heap.size w).alloc (Nat.le_refl _) (.cells #[.slice none 0 0, .slice none 0 0] 113)
    exact ⟨this.os, this.tape, this.output, this.size, this.block⟩
  have hw1 := h.below hb1
  have h1 := hw1.c1'
  have h2 := hw1.c2
  have h3 := hw1.m.rows i hi
  have h4 := hw1.s.rows i hi
  rw [← ho1, ← ho2]
  rw [← ho1] at h3
  rw [← ho2] at h4
  have hst : (storeVar 113 ⟨w.heap.size, 0, none⟩ (.agg #[.slice (some ⟨ga, o1, none⟩) c c, .slice (some ⟨gb, o2, none⟩) d d])).run Try.prog (w.alloc (.cells #[.slice none 0 0, .slice none 0 0] 113)).drew = .ok () (w.alloc (.cells #[.slice (some ⟨ga, o1, none⟩) c c, .slice (some ⟨gb, o2, none⟩) d d] 113)).drew := run_storeVar_new (P := Try.prog) w.drew 113 #[.slice none 0 0, .slice none 0 0] #[.slice (some ⟨ga, o1, none⟩) c c, .slice (some ⟨gb, o2, none⟩) d d] (by kernel_rfl) rfl (by simp [Value.oneCell'])
  have hbd := build_both (some ⟨ga, o1, none⟩) (some ⟨gb, o2, none⟩) c c d d
  have hres := run_loadVar_row (P := Try.prog) (w.alloc (.cells #[.slice (some ⟨ga, o1, none⟩) c c, .slice (some ⟨gb, o2, none⟩) d d] 113)).drew w.heap.size 113 113 #[.slice (some ⟨ga, o1, none⟩) c c, .slice (some ⟨gb, o2, none⟩) d d] (0, 0) _ (heap_alloc_new w _) Try.underlying113 rfl (by kernel_rfl)
  have i1 : (0 : Int) ≤ (i : Int) := by omega
  have i2 : (i : Int) < (n : Int) := by omega
  have H := Lib.hid h
  clear h hw1 hb1 ho1 ho2
  go_enter Try.func82, Try.ntmps82
  go_wp2
  refine start_ (n := 16) (S := fun w' => w'.cell? ⟨g, 1, none⟩ = some (.slice (some ⟨gm, 0, none⟩) n n) ∧ w'.cell? ⟨g, 2, none⟩ = some (.slice (some ⟨gs, 0, none⟩) n n) ∧ w'.cell? ⟨gm, i, none⟩ = some (.slice (some ⟨ga, o1, none⟩) c c) ∧ w'.cell? ⟨gs, i, none⟩ = some (.slice (some ⟨gb, o2, none⟩) d d)) (ds := [15]) #[false, false, false, false, false, false, false, false, false, false, false, false, false, false, false, false] (by kernel_rfl) rfl rfl ⟨h1, h2, h3, h4⟩ (fun hHeld => ?_)
  refine pure_ (i := 0) (N := some 5) (v := ?_) (a' := ?_) #[true, false, false, false, false, false, false, false, false, false, false, false, false, false, false, false] rfl rfl (by kernel_rfl) (fun _ _ _ h => h) (Or.inl ⟨by rfl, ?_⟩) ?_ ?_
  rotate_left
  · intro w'
    go_simp
    with_reducible rfl
  rotate_left
  · simp only [Act.put, List.setIfInBounds_toArray, List.set_cons_zero, List.set_cons_succ, i64_w, i32_w]
    rfl
  refine pure_ (i := 1) (N := some 6) (v := ?_) (a' := ?_) #[true, true, false, false, false, false, false, false, false, false, false, false, false, false, false, false] rfl rfl (by kernel_rfl) (fun _ _ _ h => h) (Or.inl ⟨by rfl, ?_⟩) ?_ ?_
  rotate_left
  · intro w'
    go_simp
    with_reducible rfl
  rotate_left
  · simp only [Act.put, List.setIfInBounds_toArray, List.set_cons_zero, List.set_cons_succ, i64_w, i32_w]
    rfl
  refine pure_ (i := 2) (N := some 7) (v := ?_) (a' := ?_) #[true, true, true, false, false, false, false, false, false, false, false, false, false, false, false, false] rfl rfl (by kernel_rfl) (fun _ _ _ h => h) (Or.inl ⟨by rfl, ?_⟩) ?_ ?_
  rotate_left
  · intro w'
    go_simp
    with_reducible rfl
  rotate_left
  · simp only [Act.put, List.setIfInBounds_toArray, List.set_cons_zero, List.set_cons_succ, i64_w, i32_w]
    rfl
  refine pure_ (i := 4) (N := some 9) (v := ?_) (a' := ?_) #[true, true, true, false, true, false, false, false, false, false, false, false, false, false, false, false] rfl rfl (by kernel_rfl) (fun _ _ _ h => h) (Or.inl ⟨by rfl, ?_⟩) ?_ ?_
  rotate_left
  · intro w'
    go_simp
    with_reducible rfl
  rotate_left
  · simp only [Act.put, List.setIfInBounds_toArray, List.set_cons_zero, List.set_cons_succ, i64_w, i32_w]
    rfl
  refine pure_ (i := 7) (N := some 12) (v := ?_) (a' := ?_) #[true, true, true, false, true, false, false, true, false, false, false, false, false, false, false, false] rfl rfl (by kernel_rfl) (fun _ _ _ h => h) (Or.inl ⟨by rfl, ?_⟩) ?_ ?_
  rotate_left
  · intro w'
    go_simp
    with_reducible rfl
  rotate_left
  · simp only [Act.put, List.setIfInBounds_toArray, List.set_cons_zero, List.set_cons_succ, i64_w, i32_w]
    rfl
  refine pure_ (i := 8) (N := some 13) (v := ?_) (a' := ?_) #[true, true, true, false, true, false, false, true, true, false, false, false, false, false, false, false] rfl rfl (by kernel_rfl) (fun _ _ _ h => h) (Or.inl ⟨by rfl, ?_⟩) ?_ ?_
  rotate_left
  · intro w'
    go_simp
    with_reducible rfl
  rotate_left
  · simp only [Act.put, List.setIfInBounds_toArray, List.set_cons_zero, List.set_cons_succ, i64_w, i32_w]
    rfl
  refine pure_ (i := 9) (N := some 14) (v := ?_) (a' := ?_) #[true, true, true, false, true, false, false, true, true, true, false, false, false, false, false, false] rfl rfl (by kernel_rfl) (fun _ _ _ h => h) (Or.inl ⟨by rfl, ?_⟩) ?_ ?_
  rotate_left
  · intro w'
    go_simp
    with_reducible rfl
  rotate_left
  · simp only [Act.put, List.setIfInBounds_toArray, List.set_cons_zero, List.set_cons_succ, i64_w, i32_w]
    rfl
  refine pure_ (i := 11) (N := some 16) (v := ?_) (a' := ?_) #[true, true, true, false, true, false, false, true, true, true, false, true, false, false, false, false] rfl rfl (by kernel_rfl) (fun _ _ _ h => h) (Or.inl ⟨by rfl, ?_⟩) ?_ ?_
  rotate_left
  · intro w'
    go_simp
    with_reducible rfl
  rotate_left
  · simp only [Act.put, List.setIfInBounds_toArray, List.set_cons_zero, List.set_cons_succ, i64_w, i32_w]
    rfl
  refine take_ (i := 3) (N := some 8) (v := ?_) (a' := ?_) #[true, true, true, true, true, false, false, true, true, true, false, true, false, false, false, false] rfl rfl (by kernel_rfl) (fun _ _ _ h => h) (Or.inl ⟨by rfl, ?_⟩) hHeld ?_ ?_
  rotate_left
  · rintro w' ⟨s0, s1, s2, s3⟩
    go_simp
    with_reducible rfl
  rotate_left
  · simp only [Act.put, List.setIfInBounds_toArray, List.set_cons_zero, List.set_cons_succ, i64_w, i32_w]
    rfl
  refine pure_ (i := 5) (N := some 10) (v := ?_) (a' := ?_) #[true, true, true, true, true, true, false, true, true, true, false, true, false, false, false, false] rfl rfl (by kernel_rfl) (fun _ _ _ h => h) (Or.inl ⟨by rfl, ?_⟩) ?_ ?_
  rotate_left
  · intro w'
    go_simp
    with_reducible rfl
  rotate_left
  · simp only [Act.put, List.setIfInBounds_toArray, List.set_cons_zero, List.set_cons_succ, i64_w, i32_w]
    rfl
  refine take_ (i := 6) (N := some 11) (v := ?_) (a' := ?_) #[true, true, true, true, true, true, true, true, true, true, false, true, false, false, false, false] rfl rfl (by kernel_rfl) (fun _ _ _ h => h) (Or.inl ⟨by rfl, ?_⟩) hHeld ?_ ?_
  rotate_left
  · rintro w' ⟨s0, s1, s2, s3⟩
    go_simp
    with_reducible rfl
  rotate_left
  · simp only [Act.put, List.setIfInBounds_toArray, List.set_cons_zero, List.set_cons_succ, i64_w, i32_w]
    rfl
  refine take_ (i := 10) (N := some 15) (v := ?_) (a' := ?_) #[true, true, true, true, true, true, true, true, true, true, true, true, false, false, false, false] rfl rfl (by kernel_rfl) (fun _ _ _ h => h) (Or.inl ⟨by rfl, ?_⟩) hHeld ?_ ?_
  rotate_left
  · rintro w' ⟨s0, s1, s2, s3⟩
    go_simp
    with_reducible rfl
  rotate_left
  · simp only [Act.put, List.setIfInBounds_toArray, List.set_cons_zero, List.set_cons_succ, i64_w, i32_w]
    rfl
  refine pure_ (i := 12) (N := some 17) (v := ?_) (a' := ?_) #[true, true, true, true, true, true, true, true, true, true, true, true, true, false, false, false] rfl rfl (by kernel_rfl) (fun _ _ _ h => h) (Or.inl ⟨by rfl, ?_⟩) ?_ ?_
  rotate_left
  · intro w'
    go_simp
    with_reducible rfl
  rotate_left
  · simp only [Act.put, List.setIfInBounds_toArray, List.set_cons_zero, List.set_cons_succ, i64_w, i32_w]
    rfl
  refine take_ (i := 13) (N := some 18) (v := ?_) (a' := ?_) #[true, true, true, true, true, true, true, true, true, true, true, true, true, true, false, false] rfl rfl (by kernel_rfl) (fun _ _ _ h => h) (Or.inl ⟨by rfl, ?_⟩) hHeld ?_ ?_
  rotate_left
  · rintro w' ⟨s0, s1, s2, s3⟩
    go_simp
    with_reducible rfl
  rotate_left
  · simp only [Act.put, List.setIfInBounds_toArray, List.set_cons_zero, List.set_cons_succ, i64_w, i32_w]
    rfl
  refine pure_ (i := 14) (N := some 19) (v := ?_) (a' := ?_) #[true, true, true, true, true, true, true, true, true, true, true, true, true, true, true, false] rfl rfl (by kernel_rfl) (fun _ _ _ h => h) (Or.inl ⟨by rfl, ?_⟩) ?_ ?_
  rotate_left
  · intro w'
    rw [exec_build rfl (by simp only [List.map_toArray, List.map_cons, List.map_nil]; rfl) (hbd w')]
  rotate_left
  · simp only [Act.put, List.setIfInBounds_toArray, List.set_cons_zero, List.set_cons_succ, i64_w, i32_w]
    rfl
  refine last_ (i := 15) (N := none) #[true, true, true, true, true, true, true, true, true, true, true, true, true, true, true, true] rfl rfl (by kernel_rfl) (by decide) (fun K hK => ?_)
  refine skip_ (w1 := ?_) (by rfl) rfl ?_ ?_
  rotate_left
  · rw [exec_store 113 _ _ rfl ⟨w.heap.size, 0, none⟩ (by rfl) (.agg #[.slice (some ⟨ga, o1, none⟩) c c, .slice (some ⟨gb, o2, none⟩) d d]) (by rfl) hst]
  refine hK.out _ _ ?_
  clear hK K
  refine done_ (by kernel_rfl) ?_
  go_wp2
  have hbf : Below w.heap.size w (w.alloc (.cells #[.slice (some ⟨ga, o1, none⟩) c c, .slice (some ⟨gb, o2, none⟩) d d] 113)).drew := by
    have := (Below.refl w.heap.size w).alloc (Nat.le_refl _) (.cells #[.slice (some ⟨ga, o1, none⟩) c c, .slice (some ⟨gb, o2, none⟩) d d] 113)
    exact ⟨this.os, this.tape, this.output, this.size, this.block⟩
  refine bodyPost_ret (v := .agg #[.slice (some ⟨ga, o1, none⟩) c c, .slice (some ⟨gb, o2, none⟩) d d]) ?_ rfl ⟨rfl, hbf⟩
  rw [results_cell1 rfl]
  simp [asAddr, hres, Result.andThen]
end Go.Proofs.Ytoijjlpkoniipaa
end
section
/- Matrices: scale. -/
namespace Go.Proofs.Ytoijjlpkoniipaa
open Go.RowKit Go.Proofs.YtoijjlpkoniipaaW.PrintWords Go.Proofs.YtoijjlpkoniipaaW.PrintLast Gf Lin
set_option linter.unusedSimpArgs false
theorem wpList_copy_run {P : Program} {w w' : World} {ops : Array Oper} {rest : List Oper} {o : Oper} {a : Act} {Q : Exit → Act → World → Prop} (hgd : o.guard = none) {t tn : TypeId} {x y : Operand} (ho : o.op = .call { callee := .builtin .copy, args := #[x, y], argTypes := #[t, tn] })
    {vx vy v : Value} (hx : a.eval x = vx) (hy : a.eval y = vy) (hr : (Builtin.copy_ #[t, tn] o.type #[vx, vy]).run P w = .ok v w') (h : wpList P ops Q rest (a.put o.dst v) w') : wpList P ops Q (o :: rest) a w := by
  refine wpList_plain hgd fun _ hK => ?_
  unfold Oper.wp
  rw [exec_copy (ρ := a.eval) ho hx hy hr]
  exact hK _ _ h
theorem Wk.copyM {w : World} {g gt gm ga gs gb n c d : Nat} {p q : Nat → Nat} {M S : Lin.M} (h : Wk w g gt gm ga gs gb n c d p q M S) {i : Nat} (hi : i < n) {B : Option Addr} {cB : Nat} {ys : List UInt8} (hy : KB.C w B c (bs ys)) (ty : TypeId) :
    ∃ w', (Builtin.copy_ #[35, 35] ty #[.slice (some ⟨ga, p i * c, none⟩) c c, .slice B c cB]).run Try.prog w = .ok (goInt c) w' ∧ Wk w' g gt gm ga gs gb n c d p q (fun a b => if a = i then Ytoijjlpkoniipaa.gb ys b else M a b) S ∧ Chg (WF gm ga gs gb) w w' ∧ w'.heap.size = w.heap.size := by
  obtain ⟨w', h1, h2, h3, h4⟩ := h.m.copyRow h.pp h.ne1.1 hi (cB := cB) hy h.c1.1 ty
  have k := fun x (hx : x < w.heap.size) (hne : x ≠ ga) => h3.block x hx hne
  obtain ⟨e1, e2, e3, e4, e5, e6⟩ := h.ne1
  obtain ⟨f1, f2, f3, f4⟩ := h.ne2
  obtain ⟨g1, g2, g3, g4⟩ := h.ne3
  obtain ⟨l1, l2, l3, l4, l5⟩ := h.lt
  exact ⟨w', h1, ⟨(k g h.glt f2).trans h.blk, tab_same h.tab (k gt l1 g2), h2, h.s.same (k gs l4 (Ne.symm e5)) (k gb l5 (Ne.symm e6)), h.pp, h.pq, h.ne1, h.ne2, h.ne3, by rw [h4]; exact h.lt, h.n1, h.c1, h.d1⟩, ⟨h3.os, h3.tape, h3.output, h3.size, fun x hx hf => h3.block x hx (fun e => hf (.inr (.inl e)))⟩, h4⟩
theorem Wk.copyS {w : World} {g gt gm ga gs gb n c d : Nat} {p q : Nat → Nat} {M S : Lin.M} (h : Wk w g gt gm ga gs gb n c d p q M S) {i : Nat} (hi : i < n) {B : Option Addr} {cB : Nat} {ys : List UInt8} (hy : KB.C w B d (bs ys)) (ty : TypeId) :
    ∃ w', (Builtin.copy_ #[35, 35] ty #[.slice (some ⟨gb, q i * d, none⟩) d d, .slice B d cB]).run Try.prog w = .ok (goInt d) w' ∧ Wk w' g gt gm ga gs gb n c d p q M (fun a b => if a = i then Ytoijjlpkoniipaa.gb ys b else S a b) ∧ Chg (WF gm ga gs gb) w w' ∧ w'.heap.size = w.heap.size := by
  obtain ⟨w', h1, h2, h3, h4⟩ := h.s.copyRow h.pq h.ne1.2.1 hi (cB := cB) hy h.d1.1 ty
  have k := fun x (hx : x < w.heap.size) (hne : x ≠ gb) => h3.block x hx hne
  obtain ⟨e1, e2, e3, e4, e5, e6⟩ := h.ne1
  obtain ⟨f1, f2, f3, f4⟩ := h.ne2
  obtain ⟨g1, g2, g3, g4⟩ := h.ne3
  obtain ⟨l1, l2, l3, l4, l5⟩ := h.lt
  exact ⟨w', h1, ⟨(k g h.glt f4).trans h.blk, tab_same h.tab (k gt l1 g4), h.m.same (k gm l2 e4) (k ga l3 e6), h2, h.pp, h.pq, h.ne1, h.ne2, h.ne3, by rw [h4]; exact h.lt, h.n1, h.c1, h.d1⟩, ⟨h3.os, h3.tape, h3.output, h3.size, fun x hx hf => h3.block x hx (fun e => hf (.inr (.inr (.inr e))))⟩, h4⟩
theorem scl_row (a : UInt8) (c : Nat) (f : Nat → UInt8) {j : Nat} (hj : j < c) : Ytoijjlpkoniipaa.gb (scl a ((List.range c).map f)) j = gm a (f j) := by

  rw [gb_at (by simp [hj])]
  simp [scl]
theorem index0 (A B : Option Addr) (c c' d d' : Nat) (W : World) : (Instr.index 113 (.agg #[.slice A c c', .slice B d d']) (.int .i64 0)).run Try.prog W = .ok (.slice A c c') W := by
  have hag : (isAgg 35).run Try.prog W = .ok false W := by
    unfold isAgg
    rw [Sem.run_bind, run_underlying Try.underlying35 W]
    rfl
  simp [Instr.index, run_underlying Try.underlying113, Result.andThen, Sem.run_bind, asIntOf, part, hag]
theorem index1 (A B : Option Addr) (c c' d d' : Nat) (W : World) : (Instr.index 113 (.agg #[.slice A c c', .slice B d d']) (.int .i64 1)).run Try.prog W = .ok (.slice B d d') W := by
  have hag : (isAgg 35).run Try.prog W = .ok false W := by
    unfold isAgg
    rw [Sem.run_bind, run_underlying Try.underlying35 W]
    rfl
  simp [Instr.index, run_underlying Try.underlying113, Result.andThen, Sem.run_bind, asIntOf, part, hag]
end Go.Proofs.Ytoijjlpkoniipaa
end
section
/- Matrices: scale, the walk. -/
namespace Go.Proofs.Ytoijjlpkoniipaa
open Go.RowKit Go.Proofs.YtoijjlpkoniipaaW.PrintWords Go.Proofs.YtoijjlpkoniipaaW.PrintLast Gf Lin
set_option linter.unusedSimpArgs false
set_option maxHeartbeats 2000000 in
set_option maxRecDepth 100000 in
theorem wscale_calls {w : World} {g gt gm ga gs gb n c d : Nat} {p q : Nat → Nat} {M S : Lin.M} (h : Wk w g gt gm ga gs gb n c d p q M S) {i : Nat} (hi : i < n) (a : UInt8) :
    Calls Try.prog 79 #[.pointer (some ⟨g, 0, none⟩), .int .i64 (i : Int), .int .u8 (a.toNat : Int)] w fun e w' => e = .returned (.tuple #[]) ∧ Wk w' g gt gm ga gs gb n c d p q (scaleRow i a M) (scaleRow i a S) ∧ Chg (WF gm ga gs gb) w w' := by
  have hbo := both_calls h hi
  have H := Lib.hid h
  clear h
  go_enter Try.func79, Try.ntmps79
  go_wp2_with fail
  refine hbo.mono ?_
  clear hbo
  rintro e w1 ⟨rfl, hb1⟩
  have h1 := H.out.below hb1
  have hc0 : Chg (WF gm ga gs gb) w w1 := Chg.of_below hb1
  have H1 := Lib.hid h1
  have HC := Lib.hid hc0
  clear h1 hc0 hb1
  obtain ⟨o1, ho1⟩ : ∃ o1, o1 = p i * c := ⟨_, rfl⟩
  obtain ⟨o2, ho2⟩ : ∃ o2, o2 = q i * d := ⟨_, rfl⟩
  rw [← ho1, ← ho2]
  have HO1 := Lib.hid ho1
  have HO2 := Lib.hid ho2
  clear ho1 ho2
  go_wp2_with fail
  go_loopw [11] (fun x wr => ∃ k : Nat, k ≤ 2 ∧ x = .int .i64 k ∧ Wk wr g gt gm ga gs gb n c d p q (if k = 0 then M else scaleRow i a M) (if k ≤ 1 then S else scaleRow i a S) ∧ Chg (WF gm ga gs gb) w wr) (fun x _ => 2 - (intOf x).toNat)
  case atStart => exact ⟨0, by omega, rfl, by simpa using H1.out, HC.out⟩
  case round =>
    obtain ⟨k, hk, rfl, hw, hch⟩ := hrel
    by_cases hlt : k < 2
    · by_cases hk0 : k = 0
      · subst hk0
        have hw : Wk wr g gt gm ga gs gb n c d p q M S := by simpa using hw
        have hrow := hw.m.row (by have := hw.c1; omega) hi
        have hsc := scale_calls gt a (some ⟨ga, p i * c, none⟩) ((List.range c).map (M i)) c wr hw.tab hw.lt.1 (by simpa using hrow) (by simp) (by have := hw.c1; simp; omega)
        rw [show ((List.range c).map (M i)).length = c by simp, ← HO1.out] at hsc
        have c0 := hw.c0
        have HW := Lib.hid hw
        have HCH := Lib.hid hch
        have hix := index0 (some ⟨ga, o1, none⟩) (some ⟨gb, o2, none⟩) c c d d
        clear hrow hw hch hlt hk
        go_wp2_with fail
        refine hsc.mono ?_
        clear hsc
        rintro e w2 ⟨A', c', rfl, hc', hC, hb2⟩
        have hw2 := HW.out.below hb2
        obtain ⟨w3, hcp, hw3, hc3, hs3⟩ := hw2.copyM hi (cB := c') hC 3
        rw [← HO1.out] at hcp
        have hw4 : Wk w3 g gt gm ga gs gb n c d p q (scaleRow i a M) S := hw3.congr (fun x hx y hy => by
            unfold scaleRow
            by_cases hxi : x = i
            · rw [if_pos hxi, if_pos hxi, scl_row _ _ _ hy, hxi]
            · rw [if_neg hxi, if_neg hxi]) (fun _ _ _ _ => rfl)
        have hch4 : Chg (WF gm ga gs gb) w w3 := (HCH.out.trans (Chg.of_below (F := WF gm ga gs gb) hb2) (fun x hx => .inl hx)).trans hc3 (fun x hx => .inl hx)
        have HW4 := Lib.hid hw4
        have HC4 := Lib.hid hch4
        clear hw2 hw3 hc3 hs3 hw4 hch4 hb2 hC c0 hix
        go_wp2_with (at_builtin; refine wpList_copy_run rfl rfl rfl rfl hcp ?_)
        exact ⟨⟨1, by omega, by go_num, by simpa using HW4.out, HC4.out⟩, by simp [intOf]⟩
      · obtain rfl : k = 1 := by omega
        have hw : Wk wr g gt gm ga gs gb n c d p q (scaleRow i a M) S := by simpa using hw
        clear hk0
        have hrow := hw.s.row (by have := hw.d1; omega) hi
        have hsc := scale_calls gt a (some ⟨gb, q i * d, none⟩) ((List.range d).map (S i)) d wr hw.tab hw.lt.1 (by simpa using hrow) (by simp) (by have := hw.d1; simp; omega)
        rw [show ((List.range d).map (S i)).length = d by simp, ← HO2.out] at hsc
        have c0 := hw.c0
        have HW := Lib.hid hw
        have HCH := Lib.hid hch
        have hix := index1 (some ⟨ga, o1, none⟩) (some ⟨gb, o2, none⟩) c c d d
        clear hrow hw hch hlt hk
        go_wp2_with fail
        refine hsc.mono ?_
        clear hsc
        rintro e w2 ⟨A', c', rfl, hc', hC, hb2⟩
        have hw2 := HW.out.below hb2
        obtain ⟨w3, hcp, hw3, hc3, hs3⟩ := hw2.copyS hi (cB := c') hC 3
        rw [← HO2.out] at hcp
        have hw4 : Wk w3 g gt gm ga gs gb n c d p q (scaleRow i a M) (scaleRow i a S) := hw3.congr (fun _ _ _ _ => rfl) (fun x hx y hy => by
            unfold scaleRow
            by_cases hxi : x = i
            · rw [if_pos hxi, if_pos hxi, scl_row _ _ _ hy, hxi]
            · rw [if_neg hxi, if_neg hxi])
        have hch4 : Chg (WF gm ga gs gb) w w3 := (HCH.out.trans (Chg.of_below (F := WF gm ga gs gb) hb2) (fun x hx => .inl hx)).trans hc3 (fun x hx => .inl hx)
        have HW4 := Lib.hid hw4
        have HC4 := Lib.hid hch4
        clear hw2 hw3 hc3 hs3 hw4 hch4 hb2 hC c0 hix
        go_wp2_with (at_builtin; refine wpList_copy_run rfl rfl rfl rfl hcp ?_)
        exact ⟨⟨2, by omega, by go_num, by simpa using HW4.out, HC4.out⟩, by simp [intOf]⟩
    · obtain rfl : k = 2 := by omega
      have hw : Wk wr g gt gm ga gs gb n c d p q (scaleRow i a M) (scaleRow i a S) := by simpa using hw
      have HW := Lib.hid hw
      have HCH := Lib.hid hch
      clear hw hch hlt hk
      go_wp2_with fail
      go_end0
      exact ⟨rfl, HW.out, HCH.out⟩
end Go.Proofs.Ytoijjlpkoniipaa
end
