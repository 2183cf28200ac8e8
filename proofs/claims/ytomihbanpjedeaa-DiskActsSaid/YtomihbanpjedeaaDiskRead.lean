/- The disk: Read; a sector of one byte. -/
import Derived.Test.YtomihbanpjedeaaDiskSync
namespace Go.Proofs.Ytomihbanpjedeaa
open Go.RowKit
set_option linter.unusedSimpArgs false

/-- The k-th sector's cells. -/
def sec (xs : List Value) (k : Nat) : List Value := (xs.drop (k * 64)).take 64
theorem sec_length {xs : List Value} {n k : Nat} (h : xs.length = n * 64) (hk : k < n) : (sec xs k).length = 64 := by unfold sec; rw [List.length_take, List.length_drop, h]; omega
theorem sec_bytes {xs : List Value} (h : Bytes xs) (k : Nat) : Bytes (sec xs k) := fun u hu => h u (List.mem_of_mem_drop (List.mem_of_mem_take hu))
theorem size78 : (Try.prog.info? 78).map (·.size) = some 64 := by kernel_rfl
theorem load_sec {w : World} {a : Addr} {ks : List Value} (hl : ks.length = 64) (hc : ∀ j u, ks[j]? = some u → w.cell? (a.add j) = some u) : (loadVar 78 a).run Try.prog w = .ok (.agg ks.toArray) w := by
  have h := run_loadCells_list (P := Try.prog) w a ks hc
  rw [hl] at h
  obtain ⟨i0, hi, hz0, hz1, hz2⟩ := info78'
  have hagg : (isAgg 78).run Try.prog w = .ok true w := by
    unfold isAgg
    rw [Sem.run_bind, run_underlying Try.underlying78 w]
    rfl
  simp [loadVar, Sem.run_bind, hagg, sizeOf, typeInfo, hi, hz1, h]
theorem sec_at {w : World} {g n c k : Nat} {xs : List Value} (h : w.ownsRow 0 78 64 (.slice (some ⟨g, 0, none⟩) n c) n xs) : ∀ j u, (sec xs k)[j]? = some u → w.cell? ((⟨g, k * 64, none⟩ : Addr).add j) = some u := by
  intro j u hj
  unfold sec at hj
  rw [List.getElem?_take] at hj
  split at hj
  · rw [List.getElem?_drop] at hj
    have := own_cells h _ u hj
    rw [Addr.add_lit] at this ⊢
    rw [← this]; congr 2; omega
  · cases hj
def Z64 : Array Value := Array.replicate 64 (.int .u8 0)
theorem Z64_size : Z64.size = 64 := by kernel_rfl

set_option maxHeartbeats 2000000 in
set_option maxRecDepth 100000 in
theorem read_in (F : Nat → Prop) (d n k : Nat) (s : St) (w : World) (h : Dk w F d n s) (hk : k < n) (hn : n ≤ 2048) :
    Calls Try.prog 20 #[.pointer (some ⟨d, 0, none⟩), .int .i64 (k : Int)] w fun e w' => e = .returned (.tuple #[.slice (some ⟨w.heap.size, 0, none⟩) 64 64, .int .i64 0]) ∧ w' = w.alloc (.cells (sec s.nw k).toArray 78) := by
  have hth := there_calls F d n s (k : Int) w h
  rw [show decide ((0 : Int) ≤ (k : Int) ∧ (k : Int) < (n : Int)) = true by simp; omega] at hth
  obtain ⟨gs, gn, cs, cn, v, hd, o1, o2, o3, f0, f1, f2, f3, hne, hok⟩ := h
  have k1 : w.cell? ⟨d, 1, none⟩ = some (.slice (some ⟨gn, 0, none⟩) n cn) := (cell_of_row _ d 1 _ _ _ hd).trans rfl
  have hl := sec_length hok.nl hk
  have hld : (loadVar 78 ⟨gn, k * 64, none⟩).run Try.prog w = .ok (.agg (sec s.nw k).toArray) w := load_sec hl (sec_at o2)
  have hone : (sec s.nw k).toArray.all (·.oneCell') = true := Array.all_eq_true_iff_forall_mem.2 fun u hu => (sec_bytes hok.nb k).one u (by simpa using hu)
  generalize sec s.nw k = ks at hl hld hone ⊢
  have hst : (storeVar 78 ⟨w.heap.size, 0, none⟩ (.agg ks.toArray)).run Try.prog (w.alloc (.cells Z64 78)) = .ok () (w.alloc (.cells ks.toArray 78)) := run_storeVar_new w 78 Z64 ks.toArray (by rw [size78]; simp [hl]) (by simp [hl, Z64_size]) hone
  have i1 : (0 : Int) ≤ (k : Int) := by omega
  have i2 : (k : Int) < (n : Int) := by omega
  go_enter Try.func20, Try.ntmps20
  go_wp2_with fail
  refine hth.mono ?_
  rintro e w1 ⟨rfl, rfl⟩
  go_wp2_with (first | (refine wpList_store_run rfl 78 _ _ rfl rfl _ rfl _ rfl _ hst ?_) | (refine wpList_load_run rfl 78 _ rfl _ rfl _ hld ?_))
  go_ret2
  exact ⟨rfl, rfl⟩
theorem read_out (F : Nat → Prop) (d n : Nat) (a : Int) (s : St) (w : World) (h : Dk w F d n s) (ha : ¬ (0 ≤ a ∧ a < n)) :
    Calls Try.prog 20 #[.pointer (some ⟨d, 0, none⟩), .int .i64 a] w fun e w' => e = .returned (.tuple #[.slice none 0 0, .int .i64 3]) ∧ w' = w := by
  have hth := there_calls F d n s a w h
  rw [show decide (0 ≤ a ∧ a < (n : Int)) = false by simp; omega] at hth
  go_enter Try.func20, Try.ntmps20
  go_wp2_with fail
  refine hth.mono ?_
  rintro e w1 ⟨rfl, rfl⟩
  go_wp2
  go_ret2
  exact ⟨rfl, rfl⟩
theorem read_nil (a : Int) (w : World) : Calls Try.prog 20 #[.pointer none, .int .i64 a] w fun e w' => e = .returned (.tuple #[.slice none 0 0, .int .i64 15]) ∧ w' = w := by
  go_enter Try.func20, Try.ntmps20
  go_wp2
  go_ret2
  exact ⟨rfl, rfl⟩

theorem info5 : (Try.prog.info? 5).map (fun i => (i.zero, i.size, i.bytes)) = some (some (.int .u8 0), 1, 1) := by kernel_rfl
def filled (b : UInt8) (k : Nat) : List Value := List.replicate k (.int .u8 (b.toNat : Int)) ++ List.replicate (64 - k) (.int .u8 0)
theorem filled_set (b : UInt8) (k : Nat) (hk : k < 64) : (filled b k).set k (.int .u8 (b.toNat : Int)) = filled b (k + 1) := by
  unfold filled
  apply List.ext_getElem
  · simp; omega
  · intro i h1 h2
    rw [List.getElem_set]
    simp only [List.getElem_append, List.length_replicate, List.getElem_replicate]
    split <;> split <;> (try split) <;> (first | rfl | (exfalso; omega))
theorem filled_bytes (b : UInt8) (k : Nat) : Bytes (filled b k) := fun u hu => by
  rcases List.mem_append.1 hu with h | h
  · exact ⟨b, (List.mem_replicate.1 h).2⟩
  · exact ⟨0, (List.mem_replicate.1 h).2⟩
set_option maxHeartbeats 2000000 in
set_option maxRecDepth 100000 in
theorem sector_calls (b : UInt8) (w : World) :
    Calls Try.prog 35 #[.int .u8 (b.toNat : Int)] w fun e w' => e = .returned (.slice (some ⟨w.heap.size, 0, none⟩) 64 64) ∧ w'.ownsRow w.heap.size 5 1 (.slice (some ⟨w.heap.size, 0, none⟩) 64 64) 64 (List.replicate 64 (.int .u8 (b.toNat : Int))) ∧ Below w.heap.size w w' := by
  obtain ⟨i5, hi5, h5⟩ := Option.map_eq_some_iff.1 info5
  simp only [Prod.mk.injEq] at h5
  have hmk : ∀ W : World, (Instr.makeSlice 41 (.int .i64 64) (.int .i64 64)).run Try.prog W = .ok (.slice (some ⟨W.heap.size, 0, none⟩) 64 64) (W.alloc (.cells (madeCells #[.int .u8 0] 64) 5)) := by
    intro W
    have := run_make (P := Try.prog) W 41 5 i5 _ Try.underlying41 hi5 h5.1 .i64 .i64 64 64 (by omega) (Int.le_refl _) (by rw [h5.2.2]; omega) (by omega)
    rw [h5.2.1] at this
    simpa [Value.cells] using this
  go_enter Try.func35, Try.ntmps35
  go_wp2
  go_loopw [8] (fun i wr => ∃ k : Nat, k ≤ 64 ∧ i = .int .i64 k ∧ wr.ownsRow w.heap.size 5 1 (.slice (some ⟨w.heap.size, 0, none⟩) 64 64) 64 (filled b k) ∧ Below w.heap.size w wr) (fun i _ => 64 - (intOf i).toNat)
  case atStart =>
    refine ⟨0, by omega, rfl, ?_, (Below.refl _ _).alloc (Nat.le_refl _) _⟩
    have := World.ownsRow_lit w (madeCells #[.int .u8 0] 64) (e := 5) (size := 1) 64 (Nat.le_refl _) (by decide) (by simp [madeCells])
    rw [toList_madeCells_one] at this
    exact this
  case round =>
    obtain ⟨k, hk, rfl, ho, hb⟩ := hrel
    by_cases hlt : k < 64
    · have o1 := ho.cellAt k (by omega)
      have ol : (filled b k).length = 64 := by unfold filled; simp; omega
      rw [List.getElem?_eq_getElem (by omega)] at o1
      have o2 := ho.frozenAt k
      have hs := Lib.hid (ho.stored k (.int .u8 (b.toNat : Int)))
      have i1 : (0 : Int) ≤ (k : Int) := by omega
      have i2 : (k : Int) < 64 := by omega
      go_wp2
      refine ⟨⟨k + 1, by omega, by go_num, ?_, Below.setCell hb (by simp) _⟩, by simp [intOf]; omega⟩
      have := hs.out.1
      rw [filled_set b k hlt] at this
      exact this
    · obtain rfl : k = 64 := by omega
      have hfin : filled b 64 = List.replicate 64 (.int .u8 (b.toNat : Int)) := by unfold filled; simp
      rw [hfin] at ho
      have HO := Lib.hid ho
      clear ho hfin
      go_wp2
      go_ret
      exact ⟨rfl, HO.out, hb⟩
end Go.Proofs.Ytomihbanpjedeaa
