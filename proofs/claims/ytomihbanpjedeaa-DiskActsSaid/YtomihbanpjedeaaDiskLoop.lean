/- Disks in loops over acts; long. -/
import Derived.Test.YtomihbanpjedeaaDiskNil
namespace Go.Proofs.Ytomihbanpjedeaa
open Go.RowKit
set_option linter.unusedSimpArgs false
/-- A disk made behind w0, with what w0 had as it was. -/
structure Dz (w0 w : World) (F : Nat → Prop) (d n : Nat) (s : St) : Prop where
  dk : Dk w F d n s
  bel : Below w0.heap.size w0 w
  inn : ∀ i, F i → w0.heap.size ≤ i ∧ i < w.heap.size
theorem Dz.below {w0 w w1 : World} {F : Nat → Prop} {d n : Nat} {s : St} (h : Dz w0 w F d n s) (hb : Below w.heap.size w w1) : Dz w0 w1 F d n s :=
  ⟨h.dk.below hb, h.bel.trans (hb.mono h.bel.size), fun i hi => ⟨(h.inn i hi).1, by have := (h.inn i hi).2; have := hb.size; omega⟩⟩
theorem Dz.step {w0 w w1 : World} {F F' : Nat → Prop} {d n : Nat} {s s' : St} (h : Dz w0 w F d n s) (hd : Dk w1 F' d n s') (hc : Chg F w w1) (he : Ext F F' w w1) : Dz w0 w1 F' d n s' :=
  ⟨hd, hc.below h.bel h.bel.size (fun i hi => (h.inn i hi).1), fun i hi => (he i hi).elim (fun q => ⟨(h.inn i q).1, by have := (h.inn i q).2; have := hc.size; omega⟩) (fun q => ⟨by have := h.bel.size; omega, q.2⟩)⟩
theorem Ac.Ok.bsl {w0 w : World} {a : Ac} (h : a.Ok w0) (hb : Below w0.heap.size w0 w) (hm : 0 < a.ks.length) : ∃ B, a.A = some B ∧ Bsl w B a.ks ∧ B.block < w0.heap.size := by
  obtain ⟨B, e, hc⟩ := h.bts.2 hm
  refine ⟨B, e, ⟨h.bts.1, fun j u hj => pw_cell_below hb (hc j u hj)⟩, ?_⟩
  have h0 := hc 0 a.ks[0] (List.getElem?_eq_getElem hm)
  have := World.block_lt_of_cell? w0 _ h0
  rwa [add_block] at this
theorem do_dz {w0 w : World} {F : Nat → Prop} {d n : Nat} {s : St} {a : Ac} (h : Dz w0 w F d n s) (ha : a.Ok w0) (hn : n ≤ 2048) (hpn : s.pn.length ≤ 1000000) :
    Calls Try.prog 18 #[.pointer (some ⟨d, 0, none⟩), a.val] w fun e w' => ∃ F', e = .returned (.int .i64 (s.actE n a.kind a.at_ a.ks.length)) ∧ Dz w0 w' F' d n (s.act n a.kind a.at_ a.ks a.p) ∧ Chg F w w' ∧ Ext F F' w w' := by
  refine (do_calls F d n s a.kind a.at_ a.A a.c a.ks a.p w h.dk hn (fun hm => ?_) hpn ⟨ha.at1, ha.at2⟩ ha.keep).mono ?_
  · obtain ⟨B, e, h1, h2⟩ := ha.bsl h.bel hm
    exact ⟨B, e, h1, fun hF => by have := (h.inn _ hF).1; omega⟩
  · rintro e w' ⟨F', rfl, h1, h2, h3⟩
    exact ⟨F', rfl, h.step h1 h2 h3, h2, h3⟩
theorem sync_dz {w0 w : World} {F : Nat → Prop} {d n : Nat} {s : St} (h : Dz w0 w F d n s) (hn : n ≤ 2048) :
    Calls Try.prog 19 #[.pointer (some ⟨d, 0, none⟩)] w fun e w' => ∃ F', e = .returned (.int .i64 s.syncE) ∧ Dz w0 w' F' d n s.sync ∧ Chg F w w' ∧ Ext F F' w w' := by
  refine (sync_calls F d n s w h.dk hn).mono ?_
  rintro e w' ⟨F', rfl, h1, h2, h3⟩
  exact ⟨F', rfl, h.step h1 h2 h3, h2, h3⟩
theorem crash_dz {w0 w : World} {F : Nat → Prop} {d n : Nat} {s : St} (p : Pl) (h : Dz w0 w F d n s) (hn : n ≤ 2048) (hpn : s.pn.length ≤ 1000000) (hk : p.keep < 18446744073709551616) :
    Calls Try.prog 21 #[.pointer (some ⟨d, 0, none⟩), p.val] w fun e w' => ∃ F', e = .returned (.tuple #[]) ∧ Dz w0 w' F' d n (s.crash p) ∧ Chg F w w' ∧ Ext F F' w w' := by
  refine (crash_calls F d n s p w h.dk hn hpn hk).mono ?_
  rintro e w' ⟨F', rfl, h1, h2, h3⟩
  exact ⟨F', rfl, h.step h1 h2 h3, h2, h3⟩
theorem read_dz {w0 w : World} {F : Nat → Prop} {d n k : Nat} {s : St} (h : Dz w0 w F d n s) (hk : k < n) (hn : n ≤ 2048) :
    Calls Try.prog 20 #[.pointer (some ⟨d, 0, none⟩), .int .i64 (k : Int)] w fun e w' => e = .returned (.tuple #[.slice (some ⟨w.heap.size, 0, none⟩) 64 64, .int .i64 0]) ∧ Bts w' (some ⟨w.heap.size, 0, none⟩) (sec s.nw k) ∧ Below w.heap.size w w' ∧ Dz w0 w' F d n s ∧ w.heap.size < w'.heap.size := by
  obtain ⟨_, _, _, _, _, _, _, _, _, _, _, _, _, _, hok⟩ := id h.dk
  refine (read_in F d n k s w h.dk hk hn).mono ?_
  rintro e w8 ⟨rfl, rfl⟩
  have hb : Below w.heap.size w (w.alloc (.cells (sec s.nw k).toArray 78)) := (Below.refl _ _).alloc (Nat.le_refl _) _
  refine ⟨rfl, ⟨sec_bytes hok.nb k, fun _ => ⟨_, rfl, ?_⟩⟩, hb, h.below hb, by simp⟩
  intro j u hj
  have hadd : (⟨w.heap.size, 0, none⟩ : Addr).add j = ⟨w.heap.size, j, none⟩ := by unfold Addr.add; split <;> simp_all
  rw [hadd, cell_of_row _ _ j _ _ _ (heap_alloc_new w _)]
  simpa using hj
theorem Bts.kept {w w1 : World} {g : Nat} {xs : List Value} (h : Bts w (some ⟨g, 0, none⟩) xs) (hb : w1.heap[g]? = w.heap[g]?) : Bts w1 (some ⟨g, 0, none⟩) xs :=
  ⟨h.1, fun hn => by
    obtain ⟨a, ha, hc⟩ := h.2 hn
    cases ha
    exact ⟨_, rfl, fun j u hj => (World.cell?_of_block (by rw [add_block]; exact hb)).trans (hc j u hj)⟩⟩

/-! ### An act, loaded and laid anew -/
def Z43 : Array Value := #[.int .i64 0, .int .i64 0, .slice none 0 0, .int .u64 0, .int .i64 0, .int .i64 0]
theorem size43 : (Try.prog.info? 43).map (·.size) = some 6 := by kernel_rfl
theorem load_act {w : World} {ad : Addr} {a : Ac} (hc : ∀ j u, a.cells[j]? = some u → w.cell? (ad.add j) = some u) : (loadVar 43 ad).run Try.prog w = .ok a.val w := by
  have h := run_loadCells_list (P := Try.prog) w ad a.cells hc
  have hl : a.cells.length = 6 := rfl
  rw [hl] at h
  obtain ⟨i0, hi, hz⟩ := Option.map_eq_some_iff.1 size43
  have hagg : (isAgg 43).run Try.prog w = .ok true w := by
    unfold isAgg
    rw [Sem.run_bind, run_underlying Try.underlying43 w]
    rfl
  simp [loadVar, Sem.run_bind, hagg, sizeOf, typeInfo, hi, hz, h]
  rfl
theorem store_act (w : World) (a : Ac) : (storeVar 43 ⟨w.heap.size, 0, none⟩ a.val).run Try.prog (w.alloc (.cells Z43 43)) = .ok () (w.alloc (.cells a.cells.toArray 43)) :=
  run_storeVar_new w 43 Z43 a.cells.toArray (by rw [size43]; rfl) rfl (by simp [Ac.cells, Value.oneCell'])
theorem act_new (w : World) (a : Ac) : ∀ j u, a.cells[j]? = some u → (w.alloc (.cells a.cells.toArray 43)).cell? ((⟨w.heap.size, 0, none⟩ : Addr).add j) = some u := by
  intro j u hj
  have hadd : (⟨w.heap.size, 0, none⟩ : Addr).add j = ⟨w.heap.size, j, none⟩ := by unfold Addr.add; split <;> simp_all
  rw [hadd, cell_of_row _ _ j _ _ _ (heap_alloc_new w _)]
  simpa using hj
theorem load_act_new (w : World) (a : Ac) : (loadVar 43 ⟨w.heap.size, 0, none⟩).run Try.prog (w.alloc (.cells a.cells.toArray 43)) = .ok a.val (w.alloc (.cells a.cells.toArray 43)) := load_act (act_new w a)

/-! ### Long -/
def LongOk (L : List Ac) : Prop := L.length ≤ 100 ∧ ∀ a ∈ L, a.ks.length ≤ 200
set_option maxHeartbeats 1000000 in
theorem long_calls (A : Option Addr) (c : Nat) (L : List Ac) (w : World) (h : Acts w A L) :
    Calls Try.prog 16 #[.slice A L.length c] w fun e w' => ∃ b, e = .returned (.bool b) ∧ w' = w ∧ (b = false → LongOk L) := by
  by_cases h1 : 100 < L.length
  · have t : decide ((L.length : Int) > 100) = true := by simp; omega
    go_enter Try.func16, Try.ntmps16
    go_wp2
    go_ret
    exact ⟨true, rfl, rfl, fun h => by cases h⟩
  · have t : decide ((L.length : Int) > 100) = false := by simp; omega
    generalize hn : L.length = n at *
    go_enter Try.func16, Try.ntmps16
    go_wp2
    go_loopw [9] (fun i wr => ∃ k : Nat, k ≤ n ∧ i = .int .i64 k ∧ wr = w ∧ ∀ a ∈ L.take k, a.ks.length ≤ 200) (fun i _ => n - (intOf i).toNat)
    case atStart => exact ⟨0, by omega, rfl, rfl, by simp⟩
    case round =>
      obtain ⟨k, hk, rfl, rfl, hall⟩ := hrel
      by_cases hlt : k < n
      · obtain ⟨a, rfl, hc⟩ := h (by omega)
        obtain ⟨hok, hcc⟩ := hc k L[k] (List.getElem?_eq_getElem (by omega))
        have hb := hcc 2 _ rfl
        have hst : ∀ b ∈ L.take (k + 1), b ∈ L.take k ∨ b = L[k] := fun b hb => by
          rw [List.take_succ_eq_append_getElem (by omega), List.mem_append, List.mem_singleton] at hb
          exact hb
        have hL := Lib.hid hall
        have hS := Lib.hid hst
        rw [← Addr.add_add] at hb
        have hb2 : wr.cell? ⟨(a.add (k * 6)).block, (a.add (k * 6)).off + 2, none⟩ = some _ := hb
        generalize L[k] = ac at *
        have i1 : (0 : Int) ≤ (k : Int) := by omega
        have i2 : (k : Int) < (n : Int) := by omega
        clear hc hcc hall hst h hok hb
        by_cases h2 : 200 < ac.ks.length
        · have t2 : decide ((ac.ks.length : Int) > 200) = true := by simp; omega
          go_wp2
          go_ret
          exact ⟨true, rfl, rfl, fun h => by cases h⟩
        · have t2 : decide ((ac.ks.length : Int) > 200) = false := by simp; omega
          go_wp2
          refine ⟨⟨k + 1, by omega, by go_num, trivial, fun b hb => ?_⟩, by simp [intOf]; omega⟩
          rcases hS.out b hb with e | e
          · exact hL.out b e
          · rw [e]; omega
      · obtain rfl : k = n := by omega
        go_wp2
        go_ret
        exact ⟨false, rfl, rfl, fun _ => ⟨by omega, fun a ha => hall a (by rw [List.take_of_length_le (by omega)]; exact ha)⟩⟩
end Go.Proofs.Ytomihbanpjedeaa
