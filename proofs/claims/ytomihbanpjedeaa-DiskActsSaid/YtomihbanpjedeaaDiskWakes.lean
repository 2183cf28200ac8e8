/- The disk's example. -/
import Derived.Test.YtomihbanpjedeaaSame
namespace Go.Proofs.Ytomihbanpjedeaa
open Go.RowKit
set_option linter.unusedSimpArgs false
def byteL (b : UInt8) : List Value := List.replicate 64 (.int .u8 (b.toNat : Int))
theorem byteL_bytes (b : UInt8) : Bytes (byteL b) := fun u hu => ⟨b, (List.mem_replicate.1 hu).2⟩
def w0S : St := St.new 2
def w1S : St := w0S.write 2 0 64 (byteL 1)
def w2S : St := w1S.sync
def w3S : St := w2S.write 2 0 64 (byteL 2)
def noneP : Pl := ⟨0, -1, 0⟩
def w4S : St := w3S.crash noneP
theorem wE1 : w0S.writeE 2 0 64 = 0 := by kernel_rfl
theorem wE2 : w1S.syncE = 0 := by kernel_rfl
theorem wE3 : w2S.writeE 2 0 64 = 0 := by kernel_rfl
theorem wR : sec w4S.nw 0 = byteL 1 := by kernel_rfl
theorem wP1 : w1S.pn.length ≤ 1000000 := by decide
theorem wP2 : w2S.pn.length ≤ 1000000 := by decide
theorem wP3 : w3S.pn.length ≤ 1000000 := by decide
theorem byteL_own {w : World} {base g c : Nat} {b : UInt8} (h : w.ownsRow base 5 1 (.slice (some ⟨g, 0, none⟩) 64 c) 64 (byteL b)) : Bsl w ⟨g, 0, none⟩ (byteL b) := ⟨byteL_bytes b, own_cells h⟩

theorem wk_write1 (F : Nat → Prop) (d g : Nat) (w : World) (h : Dk w F d 2 w0S) (hB : Bsl w ⟨g, 0, none⟩ (byteL 1)) (hF : ¬ F g) :
    Calls Try.prog 34 #[.pointer (some ⟨d, 0, none⟩), .int .i64 0, .slice (some ⟨g, 0, none⟩) 64 64] w fun e w' => ∃ F', e = .returned (.int .i64 0) ∧ Dk w' F' d 2 w1S ∧ Chg F w w' ∧ Ext F F' w w' := by
  have c := write_calls F d 2 64 64 0 w0S (some ⟨g, 0, none⟩) (byteL 1) w h (by omega) rfl (fun _ => ⟨_, rfl, hB, hF⟩) (by decide)
  rw [wE1] at c
  exact c
theorem wk_sync (F : Nat → Prop) (d : Nat) (w : World) (h : Dk w F d 2 w1S) :
    Calls Try.prog 19 #[.pointer (some ⟨d, 0, none⟩)] w fun e w' => ∃ F', e = .returned (.int .i64 0) ∧ Dk w' F' d 2 w2S ∧ Chg F w w' ∧ Ext F F' w w' := by
  have c := sync_calls F d 2 w1S w h (by omega)
  rw [wE2] at c
  exact c
theorem wk_write2 (F : Nat → Prop) (d g : Nat) (w : World) (h : Dk w F d 2 w2S) (hB : Bsl w ⟨g, 0, none⟩ (byteL 2)) (hF : ¬ F g) :
    Calls Try.prog 34 #[.pointer (some ⟨d, 0, none⟩), .int .i64 0, .slice (some ⟨g, 0, none⟩) 64 64] w fun e w' => ∃ F', e = .returned (.int .i64 0) ∧ Dk w' F' d 2 w3S ∧ Chg F w w' ∧ Ext F F' w w' := by
  have c := write_calls F d 2 64 64 0 w2S (some ⟨g, 0, none⟩) (byteL 2) w h (by omega) rfl (fun _ => ⟨_, rfl, hB, hF⟩) wP2
  rw [wE3] at c
  exact c
theorem wk_crash (F : Nat → Prop) (d : Nat) (w : World) (h : Dk w F d 2 w3S) :
    Calls Try.prog 21 #[.pointer (some ⟨d, 0, none⟩), .agg #[.int .u64 0, .int .i64 (-1), .int .i64 0]] w fun e w' => ∃ F', e = .returned (.tuple #[]) ∧ Dk w' F' d 2 w4S ∧ Chg F w w' ∧ Ext F F' w w' :=
  crash_calls F d 2 w3S noneP w h (by omega) wP3 (by decide)
theorem wk_read (F : Nat → Prop) (d : Nat) (w : World) (h : Dk w F d 2 w4S) :
    Calls Try.prog 20 #[.pointer (some ⟨d, 0, none⟩), .int .i64 0] w fun e w' => e = .returned (.tuple #[.slice (some ⟨w.heap.size, 0, none⟩) 64 64, .int .i64 0]) ∧ Bts w' (some ⟨w.heap.size, 0, none⟩) (byteL 1) ∧ Below w.heap.size w w' := by
  have hr := read_in F d 2 0 w4S w h (by omega) (by omega)
  rw [wR, show ((0 : Nat) : Int) = 0 from rfl] at hr
  refine hr.mono ?_
  rintro e w8 ⟨rfl, rfl⟩
  refine ⟨rfl, ⟨byteL_bytes 1, fun _ => ⟨_, rfl, ?_⟩⟩, (Below.refl _ _).alloc (Nat.le_refl _) _⟩
  intro j u hj
  have hadd : (⟨w.heap.size, 0, none⟩ : Addr).add j = ⟨w.heap.size, j, none⟩ := by unfold Addr.add; split <;> simp_all
  rw [hadd, cell_of_row _ _ j _ _ _ (heap_alloc_new w _)]
  simpa using hj

set_option maxHeartbeats 1000000 in
set_option maxRecDepth 100000 in
theorem disk_wakes (w : World) : Calls Try.prog 15 #[] w fun e w' => e = .returned (.bool true) ∧ Below w.heap.size w w' := by
  go_enter Try.func15, Try.ntmps15
  go_wp2_with fail
  refine (disk_new_calls 2 2 (by omega) (by omega) w).mono ?_
  rintro e w1 ⟨d, F, rfl, hD, hb1, hF⟩
  go_wp2_with fail
  refine (sector_calls 1 w1).mono ?_
  rintro e w2 ⟨rfl, ho2, hb2⟩
  have hD2 : Dk w2 F d 2 w0S := hD.below hb2
  have hs12 := hb1.size
  have hs2 := hb2.size
  have hF1 : ¬ F w1.heap.size := fun e => by have := (hF _ e).2; omega
  go_wp2_with fail
  refine (wk_write1 F d _ w2 hD2 (byteL_own ho2) hF1).mono ?_
  rintro e w3 ⟨F3, rfl, hD3, hc3, he3⟩
  have hFw : ∀ i, F i → w.heap.size ≤ i := fun i hi => (hF i hi).1
  have g2 : Below w.heap.size w w2 := hb1.trans (hb2.mono hs12)
  have g3 : Below w.heap.size w w3 := hc3.below g2 g2.size hFw
  have hF3 : ∀ i, F3 i → w.heap.size ≤ i ∧ i < w3.heap.size := fun i hi => (he3 i hi).elim (fun q => ⟨(hF i q).1, by have := (hF i q).2; have := hc3.size; omega⟩) (fun q => ⟨by have := g2.size; omega, q.2⟩)
  clear hD hD2 hFw hF1 hF he3 hc3 ho2 hb2 hb1 g2 hs12 hs2
  go_wp2_with fail
  refine (wk_sync F3 d w3 hD3).mono ?_
  rintro e w4 ⟨F4, rfl, hD4, hc4, he4⟩
  have g4 : Below w.heap.size w w4 := hc4.below g3 g3.size (fun i hi => (hF3 i hi).1)
  have hF4 : ∀ i, F4 i → w.heap.size ≤ i ∧ i < w4.heap.size := fun i hi => (he4 i hi).elim (fun q => ⟨(hF3 i q).1, by have := (hF3 i q).2; have := hc4.size; omega⟩) (fun q => ⟨by have := g3.size; omega, q.2⟩)
  clear hD3 hF3 he4 hc4 g3
  go_wp2_with fail
  refine (sector_calls 2 w4).mono ?_
  rintro e w5 ⟨rfl, ho5, hb5⟩
  have hD5 : Dk w5 F4 d 2 w2S := hD4.below hb5
  have hFn : ¬ F4 w4.heap.size := fun e => by have := (hF4 _ e).2; omega
  go_wp2_with fail
  refine (wk_write2 F4 d _ w5 hD5 (byteL_own ho5) hFn).mono ?_
  rintro e w6 ⟨F6, rfl, hD6, hc6, he6⟩
  have g5 : Below w.heap.size w w5 := g4.trans (hb5.mono g4.size)
  have g6 : Below w.heap.size w w6 := hc6.below g5 g5.size (fun i hi => (hF4 i hi).1)
  have hF6 : ∀ i, F6 i → w.heap.size ≤ i := fun i hi => (he6 i hi).elim (fun q => (hF4 i q).1) (fun q => by have := g5.size; omega)
  clear hD4 hD5 hF4 he6 hc6 hFn g4 g5 hb5 ho5
  go_wp2_with fail
  refine (wk_crash F6 d w6 hD6).mono ?_
  rintro e w7 ⟨F7, rfl, hD7, hc7, he7⟩
  have g7 : Below w.heap.size w w7 := hc7.below g6 g6.size hF6
  clear hD6 hc7 he7 g6 hF6
  go_wp2_with fail
  refine (wk_read F7 d w7 hD7).mono ?_
  rintro e w8 ⟨rfl, hbt, hb8⟩
  have g8 : Below w.heap.size w w8 := g7.trans (hb8.mono g7.size)
  clear hD7
  go_wp2_with fail
  refine (sector_calls 1 _).mono ?_
  rintro e w9 ⟨rfl, ho9, hb9⟩
  have hB9 := byteL_own ho9
  have g9 : Below w.heap.size w w9 := g8.trans (hb9.mono g8.size)
  clear g7 g8 hb8
  have hs := same_bytes _ _ 64 64 64 (byteL 1) w9 (hbt.below hb9) ⟨byteL_bytes 1, fun _ => ⟨_, rfl, hB9.2⟩⟩ rfl (by omega)
  clear hbt hb9 hB9 ho9
  generalize byteL 1 = bl at *
  go_wp2_with fail
  refine hs.mono ?_
  rintro e w10 ⟨rfl, ⟨q, rfl⟩⟩
  have g10 : Below w.heap.size w (w9.drewN q) := below_drewN g9 q
  clear hs g9
  go_wp2_with fail
  go_ret
  exact ⟨rfl, g10⟩
end Go.Proofs.Ytomihbanpjedeaa
