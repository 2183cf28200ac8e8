/- Matrices in memory: their rows are cut from one list; the contract of blank. -/
import Derived.Test.YtoijjlpkoniipaaSumAny
namespace Go.Proofs.Ytoijjlpkoniipaa
open Go.RowKit Go.Proofs.YtoijjlpkoniipaaW.PrintWords Go.Proofs.YtoijjlpkoniipaaW.PrintLast Gf Lin
set_option linter.unusedSimpArgs false

/-- Each row has a place of its own. -/
def Perm (n : Nat) (p : Nat → Nat) : Prop := (∀ i, i < n → p i < n) ∧ ∀ i, i < n → ∀ k, k < n → p i = p k → i = k
/-- Block gm holds n rows of c bytes, cut from block ga, row i at place p i; they read as M. -/
structure Mat (w : World) (gm ga n c : Nat) (p : Nat → Nat) (M : Lin.M) : Prop where
  rows : ∀ i, i < n → w.cell? ⟨gm, i, none⟩ = some (.slice (some ⟨ga, p i * c, none⟩) c c)
  cells : ∀ i, i < n → ∀ j, j < c → w.cell? ⟨ga, p i * c + j, none⟩ = some (.int .u8 ((M i j).toNat : Int))
  fm : ∀ j, w.frozen? ⟨gm, j, none⟩ = false
  fa : ∀ j, w.frozen? ⟨ga, j, none⟩ = false
theorem place_inj {c a b j k : Nat} (hj : j < c) (hk : k < c) (h : a * c + j = b * c + k) : a = b ∧ j = k := by
  have h1 : (a * c + j) / c = a := by rw [Nat.mul_comm, Nat.mul_add_div (by omega), Nat.div_eq_of_lt hj, Nat.add_zero]
  have h2 : (b * c + k) / c = b := by rw [Nat.mul_comm, Nat.mul_add_div (by omega), Nat.div_eq_of_lt hk, Nat.add_zero]
  have : a = b := by rw [← h1, h, h2]
  subst this
  exact ⟨rfl, by omega⟩
theorem Mat.same {w w1 : World} {gm ga n c : Nat} {p : Nat → Nat} {M : Lin.M} (h : Mat w gm ga n c p M) (h1 : w1.heap[gm]? = w.heap[gm]?) (h2 : w1.heap[ga]? = w.heap[ga]?) : Mat w1 gm ga n c p M :=
  ⟨fun i hi => (World.cell?_of_block (a := ⟨gm, i, none⟩) h1).trans (h.rows i hi), fun i hi j hj => (World.cell?_of_block (a := ⟨ga, p i * c + j, none⟩) h2).trans (h.cells i hi j hj),
   fun j => (World.frozen?_of_block (a := ⟨gm, j, none⟩) h1).trans (h.fm j), fun j => (World.frozen?_of_block (a := ⟨ga, j, none⟩) h2).trans (h.fa j)⟩
theorem Mat.below {w w1 : World} {gm ga n c : Nat} {p : Nat → Nat} {M : Lin.M} (h : Mat w gm ga n c p M) (hm : gm < w.heap.size) (ha : ga < w.heap.size) (hb : Below w.heap.size w w1) : Mat w1 gm ga n c p M :=
  h.same (hb.block gm hm) (hb.block ga ha)
theorem Mat.congr {w : World} {gm ga n c : Nat} {p : Nat → Nat} {M M' : Lin.M} (h : Mat w gm ga n c p M) (he : ∀ i, i < n → ∀ j, j < c → M' i j = M i j) : Mat w gm ga n c p M' :=
  ⟨h.rows, fun i hi j hj => by rw [he i hi j hj]; exact h.cells i hi j hj, h.fm, h.fa⟩
theorem Mat.drewN {w : World} {gm ga n c : Nat} {p : Nat → Nat} {M : Lin.M} (h : Mat w gm ga n c p M) (k : Nat) : Mat (w.drewN k) gm ga n c p M := ⟨h.rows, h.cells, h.fm, h.fa⟩
/-- One byte written. -/
def updM (M : Lin.M) (i j : Nat) (v : UInt8) : Lin.M := fun a b => if a = i ∧ b = j then v else M a b
theorem Mat.set {w : World} {gm ga n c : Nat} {p : Nat → Nat} {M : Lin.M} (h : Mat w gm ga n c p M) (hp : Perm n p) (hne : gm ≠ ga) {i j : Nat} (hi : i < n) (hj : j < c) (v : UInt8) :
    Mat (w.setCell ⟨ga, p i * c + j, none⟩ (.int .u8 (v.toNat : Int))) gm ga n c p (updM M i j v) := by
  refine ⟨fun a ha => ?_, fun a ha b hb => ?_, fun a => by simpa using h.fm a, fun a => by simpa using h.fa a⟩
  · rw [World.cell?_setCell_other _ _ _ _ (fun e => hne (by injection e with e; exact e.symm))]; exact h.rows a ha
  · rw [set_at (h.cells i hi j hj)]
    unfold updM
    by_cases hq : a = i ∧ b = j
    · obtain ⟨rfl, rfl⟩ := hq
      rw [if_pos rfl, if_pos ⟨rfl, rfl⟩]
    · rw [if_neg hq, if_neg]
      · exact h.cells a ha b hb
      · intro e
        obtain ⟨e1, e2⟩ := place_inj hb hj e
        exact hq ⟨hp.2 a ha i hi e1, e2⟩
/-- A row exchanged for another one in its place. -/
theorem Mat.setRow {w : World} {gm ga n c : Nat} {p : Nat → Nat} {M : Lin.M} (h : Mat w gm ga n c p M) (hne : gm ≠ ga) {i k : Nat} (hi : i < n) (hk : k < n) :
    Mat (w.setCell ⟨gm, i, none⟩ (.slice (some ⟨ga, p k * c, none⟩) c c)) gm ga n c (fun a => if a = i then p k else p a) (fun a b => if a = i then M k b else M a b) := by
  refine ⟨fun a ha => ?_, fun a ha b hb => ?_, fun a => by simpa using h.fm a, fun a => by simpa using h.fa a⟩
  · rw [set_at (h.rows i hi)]
    by_cases hq : a = i
    · rw [if_pos hq, if_pos hq]
    · rw [if_neg hq, if_neg hq]; exact h.rows a ha
  · rw [World.cell?_setCell_other _ _ _ _ (fun e => hne (by injection e))]
    by_cases hq : a = i
    · rw [if_pos hq, if_pos hq]; exact h.cells k hk b hb
    · rw [if_neg hq, if_neg hq]; exact h.cells a ha b hb
/-- The rows as lists. -/
def rowsOf (n c : Nat) (M : Lin.M) : List (List UInt8) := (List.range n).map fun i => (List.range c).map (M i)
@[simp] theorem rowsOf_length (n c : Nat) (M : Lin.M) : (rowsOf n c M).length = n := by simp [rowsOf]
theorem gr_rowsOf {n c i : Nat} (M : Lin.M) (hi : i < n) : gr (rowsOf n c M) i = (List.range c).map (M i) := by
  rw [gr_at (by simp [hi])]; simp [rowsOf]
theorem gb_range {c j : Nat} (f : Nat → UInt8) (hj : j < c) : gb ((List.range c).map f) j = f j := by
  rw [gb_at (by simp [hj])]; simp
theorem Mat.row {w : World} {gm ga n c : Nat} {p : Nat → Nat} {M : Lin.M} (h : Mat w gm ga n c p M) (hc : c ≤ 9223372036854775807) {i : Nat} (hi : i < n) : KB.C w (some ⟨ga, p i * c, none⟩) c (bs ((List.range c).map (M i))) := by
  have := C_of_cells (w := w) (A := some ⟨ga, p i * c, none⟩) ((List.range c).map (M i)) (by simpa using hc) (fun _ => ⟨_, rfl, fun j hj => by
    have hj' : j < c := by simpa using hj
    rw [gb_range _ hj', ← h.cells i hi j hj']
    congr 1
    unfold Addr.add
    split
    · next e => subst e; rfl
    · rfl⟩)
  simpa using this
theorem Mat.reads {w : World} {gm ga n c : Nat} {p : Nat → Nat} {M : Lin.M} (h : Mat w gm ga n c p M) (hn : n ≤ 9223372036854775807) (hc : c ≤ 9223372036854775807) : KBB.C w (some ⟨gm, 0, none⟩) n (bss (rowsOf n c M)) := by
  have := CC_of_cells (w := w) (A := some ⟨gm, 0, none⟩) (rowsOf n c M) (by simpa using hn) (fun _ => ⟨⟨gm, 0, none⟩, rfl, fun j hj => by
    have hj' : j < n := by simpa using hj
    rw [gr_rowsOf _ hj', add_at]
    exact ⟨some ⟨ga, p j * c, none⟩, c, by rw [h.rows j hj']; simp, by simp, by simpa using h.row hc hj'⟩⟩)
  simpa using this
/-- Rows of one length are what they read as. -/
def fn (m : List (List UInt8)) : Lin.M := fun i j => gb (gr m i) j
theorem rowsOf_fn {m : List (List UInt8)} {c : Nat} (h : ∀ r ∈ m, r.length = c) : rowsOf m.length c (fn m) = m := by
  apply List.ext_getElem
  · simp
  · intro i h1 h2
    simp only [rowsOf, List.getElem_map, List.getElem_range]
    have hl := h m[i] (List.getElem_mem _)
    apply List.ext_getElem
    · simp [hl]
    · intro j h3 h4
      simp only [List.getElem_map, List.getElem_range, fn]
      rw [gr_at h2, gb_at h4]

theorem madeCells_bytes (n j : Nat) (h : j < n) : (madeCells #[Value.int .u8 0] n)[j]? = some (.int .u8 0) := by
  have := toList_madeCells_one (Value.int .u8 0) n
  rw [← Array.getElem?_toList, this, List.getElem?_replicate, if_pos h]
def cutRows (ga c k n : Nat) : List Value := (List.range n).map fun i => if i < k then .slice (some ⟨ga, i * c, none⟩) c c else .slice none 0 0
theorem cutRows_set (ga c k n : Nat) (hk : k < n) : (cutRows ga c k n).set k (.slice (some ⟨ga, k * c, none⟩) c c) = cutRows ga c (k + 1) n := by
  unfold cutRows
  apply List.ext_getElem
  · simp
  · intro j h1 h2
    simp only [List.getElem_set, List.getElem_map, List.getElem_range]
    by_cases hjk : k = j
    · rw [if_pos hjk, if_pos (by omega), hjk]
    · rw [if_neg hjk]
      by_cases hj : j < k
      · rw [if_pos hj, if_pos (by omega)]
      · rw [if_neg hj, if_neg (by omega)]
/-- The two blocks of a blank matrix. -/
structure Bm (w0 w : World) (n c k : Nat) : Prop where
  own : w.ownsRow w0.heap.size 35 1 (.slice (some ⟨w0.heap.size + 1, 0, none⟩) n n) n (cutRows w0.heap.size c k n)
  blk : w.heap[w0.heap.size]? = some (.cells (madeCells #[.int .u8 0] (n * c)) 5)
  bel : Below w0.heap.size w0 w
  size : w0.heap.size + 2 ≤ w.heap.size

set_option maxHeartbeats 2000000 in
set_option maxRecDepth 100000 in
theorem blank_calls (n c : Nat) (hn : n ≤ 255) (hc1 : 1 ≤ c) (hc : c ≤ 255) (w : World) :
    Calls Try.prog 72 #[.int .i64 (n : Int), .int .i64 (c : Int)] w fun e w' => e = .returned (.slice (some ⟨w.heap.size + 1, 0, none⟩) n n) ∧ Mat w' (w.heap.size + 1) w.heap.size n c id (fun _ _ => 0) ∧ Below w.heap.size w w' ∧ w.heap.size + 2 ≤ w'.heap.size := by
  obtain ⟨i5, hi5, hs5⟩ := Option.map_eq_some_iff.1 info5
  have hs5' : i5.size = 1 := by simp only [Prod.mk.injEq] at hs5; exact hs5.2.1
  have hnc : n * c ≤ 65025 := Nat.le_trans (Nat.mul_le_mul hn hc) (by omega)
  have hw : ∀ a b : Nat, a ≤ 256 → b ≤ 255 → wrap64 ((a : Int) * (b : Int)) = ((a * b : Nat) : Int) := fun a b ha hb => by
    have : a * b ≤ 65280 := Nat.le_trans (Nat.mul_le_mul ha hb) (by omega)
    rw [← Int.natCast_mul]; unfold wrap64; omega
  have hmk1 : ∀ W : World, (Instr.makeSlice 35 (.int .i64 ((n : Int) * (c : Int))) (.int .i64 ((n : Int) * (c : Int)))).run Try.prog W = .ok (.slice (some ⟨W.heap.size, 0, none⟩) (n * c) (n * c)) (W.alloc (.cells (madeCells #[.int .u8 0] (n * c)) 5)) := by
    rw [← Int.natCast_mul]
    exact print_make 35 5 .u8 1 Try.underlying35 info5 (by omega) (n * c) (by omega)
  have hmk2 : ∀ W : World, (Instr.makeSlice 36 (.int .i64 (n : Int)) (.int .i64 (n : Int))).run Try.prog W = .ok (.slice (some ⟨W.heap.size, 0, none⟩) n n) (W.alloc (.cells (madeCells #[.slice none 0 0] n) 35)) :=
    fun W => Go.run_make_row' 36 35 (.slice none 0 0) 24 Try.underlying36 (by kernel_rfl) rfl .i64 .i64 n (by omega) (by omega) W
  have hsl : ∀ (i : Nat), i < n → ∀ (W : World), (Instr.sliceAt 35 (.slice (some ⟨w.heap.size, 0, none⟩) (n * c) (n * c)) (some (.int .i64 ((i : Int) * (c : Int)))) (some (.int .i64 (((i : Int) + 1) * (c : Int)))) (some (.int .i64 (((i : Int) + 1) * (c : Int))))).run Try.prog W =
      .ok (.slice (some ⟨w.heap.size, i * c, none⟩) c c) W := by
    intro i hi W
    have hel : Try.prog.elem 35 = 5 := by simp [Program.elem, Try.underlying35]
    have hu : Try.prog.underlying 35 = some (.slice (Try.prog.elem 35)) := by rw [hel]; exact Try.underlying35
    have h2 : ((i : Int) + 1) = ((i + 1 : Nat) : Int) := by omega
    have h3 : (i + 1) * c ≤ n * c := Nat.mul_le_mul_right _ (by omega)
    have h4 : (i + 1) * c = i * c + c := Nat.succ_mul i c
    rw [h2, ← Int.natCast_mul, ← Int.natCast_mul]
    rw [run_sliceAt_slice W 35 _ _ _ _ hu, run_slice_lhm W 35 (some ⟨w.heap.size, 0, none⟩) (n * c) (n * c) hu .i64 .i64 .i64 _ _ _ (by omega) (by omega) (by omega) (by omega), hel]
    have h5 : ¬ ((i + 1) * c = i * c) := by omega
    have h6 : (i + 1) * c - i * c = c := by omega
    have h7 : (⟨w.heap.size, 0, none⟩ : Addr).add (i * c) = ⟨w.heap.size, i * c, none⟩ := add_at _ _
    simp only [sizeOf, typeInfo, hi5, Sem.run_bind, Sem.run_pure, Result.andThen, sliced, Int.toNat_natCast]
    simp [hi5, hs5', h5, h6, h7, Result.andThen]
  have b1 : Below w.heap.size w ((w.alloc (.cells (madeCells #[.int .u8 0] (n * c)) 5)).alloc (.cells (madeCells #[.slice none 0 0] n) 35)) := ((Below.refl _ _).alloc (Nat.le_refl _) _).alloc (by simp) _
  have m0 : Bm w ((w.alloc (.cells (madeCells #[.int .u8 0] (n * c)) 5)).alloc (.cells (madeCells #[.slice none 0 0] n) 35)) n c 0 := by
    refine ⟨?_, (Below.heap_alloc _ _ _ (by simp)).trans (heap_alloc_new w _), b1, by simp⟩
    have := World.ownsRow_lit (w.alloc (.cells (madeCells #[.int .u8 0] (n * c)) 5)) (madeCells #[.slice none 0 0] n) (e := 35) (size := 1) (base := w.heap.size) n (by simp) (by unfold maxLen; omega) (by have := congrArg List.length (toList_madeCells_one (Value.slice none 0 0) n); simpa using this)
    rw [toList_madeCells_one] at this
    have e : cutRows w.heap.size c 0 n = List.replicate n (.slice none 0 0) := by
      unfold cutRows
      apply List.ext_getElem
      · simp
      · intro j h1 h2; simp
    rw [e]
    simpa using this
  have M0 := Lib.hid m0
  have HW := Lib.hid hw
  have HSL := Lib.hid hsl
  clear hw hsl m0 b1 hs5 hs5' hi5
  go_enter Try.func72, Try.ntmps72
  go_wp2_with fail
  go_loopw [16] (fun i wr => ∃ k : Nat, k ≤ n ∧ i = .int .i64 k ∧ Bm w wr n c k) (fun i _ => n - (intOf i).toNat)
  case atStart => exact ⟨0, by omega, rfl, M0.out⟩
  case round =>
    obtain ⟨k, hk, rfl, hm⟩ := hrel
    by_cases hlt : k < n
    · have hsl := HSL.out k hlt
      have x1 := hm.own.cellAt k (by omega)
      have xl : (cutRows w.heap.size c k n).length = n := by simp [cutRows]
      rw [List.getElem?_eq_getElem (by omega)] at x1
      have x2 := hm.own.frozenAt k
      have x3 := hm.own.stored k (.slice (some ⟨w.heap.size, k * c, none⟩) c c)
      rw [cutRows_set _ _ _ _ hlt] at x3
      have hnew : Bm w (wr.setCell ⟨w.heap.size + 1, k, none⟩ (.slice (some ⟨w.heap.size, k * c, none⟩) c c)) n c (k + 1) :=
        ⟨x3.1, (Below.heap_setCell _ _ _ _ (by show w.heap.size ≠ w.heap.size + 1; omega)).trans hm.blk, Below.setCell hm.bel (by show w.heap.size ≤ w.heap.size + 1; omega) _, by simpa using hm.size⟩
      have HM := Lib.hid hnew
      have i1 : (0 : Int) ≤ (k : Int) := by omega
      have i2 : (k : Int) < (n : Int) := by omega
      have hw1 := HW.out k c (by omega) hc
      have hw2 := HW.out (k + 1) c (by omega) hc
      rw [show (((k + 1 : Nat)) : Int) = (k : Int) + 1 by omega] at hw2
      have hq1 : ((k : Int) * (c : Int)) = ((k * c : Nat) : Int) := (Int.natCast_mul k c).symm
      have hq2 : (((k : Int) + 1) * (c : Int)) = (((k + 1) * c : Nat) : Int) := by rw [Int.natCast_mul]; congr 1
      rw [hq1, hq2] at hsl
      obtain ⟨q, hq⟩ : ∃ q, q = k * c := ⟨_, rfl⟩
      obtain ⟨q2, hq3⟩ : ∃ q2, q2 = (k + 1) * c := ⟨_, rfl⟩
      rw [← hq, ← hq3] at hsl
      rw [← hq] at hw1 HM
      rw [← hq3] at hw2
      generalize (cutRows w.heap.size c k n)[k]'(by omega) = old at x1
      clear hmk1 hmk2 xl hm x3 hnew hq1 hq2 hq hq3
      go_wp2_with fail
      exact ⟨⟨k + 1, by omega, by go_num, HM.out⟩, by simp [intOf]; omega⟩
    · obtain rfl : k = n := by omega
      have hmat : Mat wr (w.heap.size + 1) w.heap.size k c id (fun _ _ => 0) := by
        refine ⟨fun i hi => ?_, fun i hi j hj => ?_, fun j => ?_, fun j => frozen_of_row _ _ j _ _ hm.blk⟩
        · have := hm.own.cells rfl i (.slice (some ⟨w.heap.size, i * c, none⟩) c c) (by simp [cutRows, hi])
          rwa [add_at] at this
        · rw [cell_of_row _ _ _ _ _ _ hm.blk, madeCells_bytes _ _ (by
            have : (i + 1) * c ≤ k * c := Nat.mul_le_mul_right _ (by omega)
            have h4 : (i + 1) * c = i * c + c := Nat.succ_mul i c
            show i * c + j < k * c
            omega)]
          rfl
        · rcases hm.own.2 with ⟨e, _⟩ | ⟨g, cap, cur, e, _, hg, _⟩
          · simp at e
          · simp only [Value.slice.injEq, Option.some.injEq, Addr.mk.injEq, and_true, true_and] at e
            rw [← e.1] at hg
            exact frozen_of_row _ _ j _ _ hg
      have HM := Lib.hid hmat
      have HB := Lib.hid hm.bel
      have HS := Lib.hid hm.size
      clear hmat hm
      go_wp2_with fail
      go_ret
      exact ⟨rfl, HM.out, HB.out, HS.out⟩
end Go.Proofs.Ytoijjlpkoniipaa
