/- The draws in memory; contracts of New, Left, More, Some, Next. -/
import Derived.Test.YtomihbanpjedeaaKeys
namespace Go.Proofs.Ytomihbanpjedeaa
open Go.RowKit
set_option linter.unusedSimpArgs false

/-- Block d holds draws: n keys are left. -/
def Dr (w : World) (d b n : Nat) (xs : List Value) : Prop :=
  ∃ A c, w.cell? ⟨d, 0, none⟩ = some (.slice A n c) ∧ n ≤ c ∧ Keys w A n xs ∧ (A = none → c = 0) ∧ w.frozen? ⟨d, 0, none⟩ = false ∧ ∀ a, A = some a → a.block ≠ d ∧ a.block < b

set_option maxHeartbeats 2000000 in
set_option maxRecDepth 100000 in
theorem new_calls (A : Option Addr) (n c : Nat) (xs : List Value) (w : World) (h : Keys w A n xs) (hn : n ≤ 1000) :
    Calls Try.prog 10 #[.slice A n c] w fun e w' => ∃ d, e = .returned (.pointer (some ⟨d, 0, none⟩)) ∧ w.heap.size ≤ d ∧ d < w'.heap.size ∧ Dr w' d d n xs ∧ Below w.heap.size w w' := by
  go_enter Try.func10, Try.ntmps10
  go_wp2_with fail
  refine (clone_any A n c xs w h hn).mono ?_
  rintro e w1 ⟨v, rfl, ho, hb⟩
  obtain ⟨A', c', rfl, hc', hk', hA', hba⟩ := own_keys ho h.bytes
  go_wp2
  go_ret
  have hb2 : Below w1.heap.size w1 (w1.alloc (.cells #[.slice A' n c'] 68)) := (Below.refl _ _).alloc (Nat.le_refl _) _
  refine ⟨w1.heap.size, rfl, hb.size, by simp, ⟨A', c', ?_, hc', hk'.below hb2, hA', ?_, fun a ha => ?_⟩, hb.alloc hb.size _⟩
  · exact (cell_of_row _ _ 0 _ _ _ (heap_alloc_new w1 _)).trans rfl
  · exact frozen_of_row _ _ 0 _ _ (heap_alloc_new w1 _)
  · subst ha
    rcases ho.2 with ⟨h', _⟩ | ⟨g, cap, cur, h', _, hg, _⟩
    · simp at h'
    · simp only [Value.slice.injEq, Option.some.injEq] at h'
      obtain ⟨rfl, _, _⟩ := h'
      exact ⟨Nat.ne_of_lt (Array.getElem?_eq_some_iff.1 hg).1, (Array.getElem?_eq_some_iff.1 hg).1⟩
theorem left_calls (d b n : Nat) (xs : List Value) (w : World) (h : Dr w d b n xs) :
    Calls Try.prog 12 #[.pointer (some ⟨d, 0, none⟩)] w fun e w' => e = .returned (.int .i64 n) ∧ w' = w := by
  obtain ⟨A, c, h0, hc, hk, hA, hf, hd⟩ := h
  go_enter Try.func12, Try.ntmps12
  go_wp2
  go_ret
  exact ⟨rfl, rfl⟩
theorem some_less (d b n k : Nat) (xs : List Value) (w : World) (h : Dr w d b n xs) (hk : n < k) (hk' : k ≤ 1000) :
    Calls Try.prog 31 #[.pointer (some ⟨d, 0, none⟩), .int .i64 (k : Int)] w fun e w' => e = .returned (.tuple #[.slice none 0 0, .int .i64 8]) ∧ w' = w := by
  obtain ⟨A, c, h0, hc, hkk, hA, hf, hd⟩ := h
  have t1 : decide ((k : Int) < 0) = false := by simp
  have t2 : decide ((k : Int) > (n : Int)) = true := by simp; omega
  go_enter Try.func31, Try.ntmps31
  go_wp2
  go_ret2
  exact ⟨rfl, rfl⟩

theorem add_block (a : Addr) (j : Nat) : (a.add j).block = a.block := by unfold Addr.add; split <;> rfl
theorem grown_trans {w w1 w2 : World} {row : Option Nat} (h : w.grownBy w1 row) (k : w1.grownBy w2 row) : w.grownBy w2 row :=
  ⟨k.os.trans h.os, k.tape.trans h.tape, k.output.trans h.output, Nat.le_trans h.size k.size, fun i hi hr => (k.block i (Nat.lt_of_lt_of_le hi h.size) hr).trans (h.block i hi hr)⟩
theorem grown_below {w w1 : World} {row : Option Nat} (h : Below w.heap.size w w1) : w.grownBy w1 row := ⟨h.os, h.tape, h.output, h.size, fun i hi _ => h.block i hi⟩
theorem grown_set {w : World} (p : Addr) (v : Value) : w.grownBy (w.setCell p v) (some p.block) :=
  ⟨rfl, rfl, rfl, by simp, fun i _ hr => Below.heap_setCell w p v i (fun e => hr (by rw [e]))⟩
theorem Keys.grown {w w1 : World} {A : Option Addr} {n d : Nat} {xs : List Value} (h : Keys w A n xs) (hg : w.grownBy w1 (some d)) (hd : ∀ a, A = some a → a.block ≠ d) : Keys w1 A n xs :=
  ⟨h.len, h.bytes, fun hn => by
    obtain ⟨a, ha, hc⟩ := h.at_ hn
    refine ⟨a, ha, fun j u hj => ?_⟩
    have hne : (a.add j).block ≠ d := by rw [add_block]; exact hd a ha
    exact hg.cell (hc j u hj) (fun e => hne (Option.some.inj e))⟩

set_option maxHeartbeats 2000000 in
set_option maxRecDepth 100000 in
theorem more_calls (d b n m c : Nat) (xs ys : List Value) (B : Option Addr) (w : World) (h : Dr w d b n xs) (hy : Keys w B m ys) (hB : B = none → c = 0) (hn : n ≤ 200) (hm : m ≤ 200) :
    Calls Try.prog 11 #[.pointer (some ⟨d, 0, none⟩), .slice B m c] w fun e w' => e = .returned (.tuple #[]) ∧ Dr w' d w'.heap.size (n + m) (xs ++ ys) ∧ w.grownBy w' (some d) := by
  obtain ⟨A, cA, h0, hc, hk, hA, hf, hd⟩ := h
  have hdl : d < w.heap.size := World.block_lt_of_cell? w ⟨d, 0, none⟩ h0
  go_enter Try.func11, Try.ntmps11
  go_wp2_with fail
  have hb0 : Below w.heap.size w (w.alloc (.cells #[.slice A n cA, .slice B m c] 22)) := (Below.refl _ _).alloc (Nat.le_refl _) _
  refine (concat_calls w.heap.size A B n m cA c xs ys _ ((cell_of_row _ _ 0 _ _ _ (heap_alloc_new w _)).trans rfl) ((cell_of_row _ _ 1 _ _ _ (heap_alloc_new w _)).trans rfl) (hk.below hb0) (hy.below hb0) hA hB hn hm).mono ?_
  rintro e w1 ⟨v, rfl, ho, hb⟩
  have hb1 : Below w.heap.size w w1 := hb0.trans (hb.mono (by simp))
  obtain ⟨A', c', rfl, hc', hk', hA', hba⟩ := own_keys ho (hk.bytes.append hy.bytes)
  have H0 : w1.cell? ⟨d, 0, none⟩ = some (.slice A n cA) := pw_cell_below hb1 h0
  have HF : w1.frozen? ⟨d, 0, none⟩ = false := (hb1.frozen (p := ⟨d, 0, none⟩) hdl).trans hf
  clear h0 hf
  have hfin : Dr (w1.setCell ⟨d, 0, none⟩ (.slice A' (n + m) c')) d (w1.setCell ⟨d, 0, none⟩ (.slice A' (n + m) c')).heap.size (n + m) (xs ++ ys) := by
    have hne : ∀ a, A' = some a → a.block ≠ d := fun a ha => by have := hba a ha; simp at this; omega
    exact ⟨A', c', World.cell?_setCell_same _ _ _ H0, hc', hk'.grown (grown_set _ _) hne, hA', by simpa using HF, fun a ha => ⟨hne a ha, by subst ha; have := ho.lt a.block rfl; simpa using this.2⟩⟩
  have hgr : w.grownBy (w1.setCell ⟨d, 0, none⟩ (.slice A' (n + m) c')) (some d) := grown_trans (grown_below hb1) (grown_set (w := w1) ⟨d, 0, none⟩ _)
  go_wp2
  go_end0
  exact ⟨rfl, hfin, hgr⟩

set_option maxHeartbeats 2000000 in
set_option maxRecDepth 100000 in
theorem some_one (d b n : Nat) (xs : List Value) (w : World) (h : Dr w d b (n + 1) xs) (hn : n < 1000) :
    Calls Try.prog 31 #[.pointer (some ⟨d, 0, none⟩), .int .i64 1] w fun e w' => ∃ B cb, e = .returned (.tuple #[.slice (some B) 1 cb, .int .i64 0]) ∧ Keys w' (some B) 1 (xs.take 32) ∧ Dr w' d b n (xs.drop 32) ∧ w.grownBy w' (some d) := by
  obtain ⟨A, c, h0, hc, hkk, hA, hf, hd⟩ := h
  obtain ⟨a, rfl, _⟩ := hkk.at_ (by omega)
  have t2 : decide ((1 : Int) > ((n : Int) + 1)) = false := by simp; omega
  have hdl : d < w.heap.size := World.block_lt_of_cell? w ⟨d, 0, none⟩ h0
  have k1 : Keys w (some a) 1 (xs.take 32) := ⟨by rw [List.length_take, hkk.len]; omega, fun u hu => hkk.bytes u (List.mem_of_mem_take hu), fun _ => ⟨a, rfl, fun j u hj => hkk.cells j u (by rw [List.getElem?_take] at hj; split at hj <;> simp_all)⟩⟩
  have hall : ∀ a', (0 < n → a' = a.add 32) → Keys w (some a') n (xs.drop 32) := fun a' ha => ⟨by rw [List.length_drop, hkk.len]; omega, fun u hu => hkk.bytes u (List.mem_of_mem_drop hu), fun h0 => ⟨a', rfl, fun j u hj => by
    rw [ha h0]
    rw [List.getElem?_drop] at hj
    have := hkk.cells (32 + j) u hj
    rw [← this]
    congr 1
    simp [Addr.add_add]⟩⟩
  have fin : ∀ (a' : Addr) (c' : Nat) (W : World), (0 < n → a' = a.add 32) → a'.block = a.block → n ≤ c' → Below w.heap.size (w.setCell ⟨d, 0, none⟩ (.slice (some a') n c')) W →
      Dr W d b n (xs.drop 32) ∧ w.grownBy W (some d) := by
    intro a' c' W ha hab hcc hW
    have hb0 : w.grownBy (w.setCell ⟨d, 0, none⟩ (.slice (some a') n c')) (some d) := grown_set (w := w) ⟨d, 0, none⟩ _
    have hne : ∀ x, some a' = some x → x.block ≠ d := fun x hx => by cases hx; rw [hab]; exact (hd a rfl).1
    have hWs : Below (w.setCell ⟨d, 0, none⟩ (.slice (some a') n c')).heap.size (w.setCell ⟨d, 0, none⟩ (.slice (some a') n c')) W := hW.mono (by simp)
    exact ⟨⟨some a', c', (hWs.cell (p := ⟨d, 0, none⟩) (by simpa using hdl)).trans (World.cell?_setCell_same _ _ _ h0), hcc, ((hall a' ha).grown hb0 hne).below hWs, (fun h => by cases h),
      (hWs.frozen (p := ⟨d, 0, none⟩) (by simpa using hdl)).trans (by simpa using hf), fun x hx => ⟨hne x hx, by cases hx; rw [hab]; exact (hd a rfl).2⟩⟩, grown_trans hb0 (grown_below hWs)⟩
  have kk : ∀ v, Keys (w.setCell ⟨d, 0, none⟩ v) (some a) 1 (xs.take 32) := fun v => k1.grown (grown_set (w := w) ⟨d, 0, none⟩ _) (fun x hx => by cases hx; exact (hd a rfl).1)
  have Hall := Lib.hid hall
  clear hall
  go_enter Try.func31, Try.ntmps31
  go_wp2_with fail
  · refine (clone_any (some a) 1 1 _ _ (kk _) (by omega)).mono ?_
    rintro e w1 ⟨v, rfl, ho, hb⟩
    obtain ⟨A', c', rfl, hc', hk', hA', hba⟩ := own_keys ho k1.bytes
    obtain ⟨B, rfl, _⟩ := hk'.at_ (by omega)
    obtain ⟨hfin, hgr⟩ := fin _ _ _ (fun h => by omega) rfl (by omega) (hb.mono (by simp))
    go_wp2
    go_ret2
    exact ⟨B, c', rfl, hk', hfin, hgr⟩
  · refine (clone_any (some a) 1 1 _ _ (kk _) (by omega)).mono ?_
    rintro e w1 ⟨v, rfl, ho, hb⟩
    obtain ⟨A', c', rfl, hc', hk', hA', hba⟩ := own_keys ho k1.bytes
    obtain ⟨B, rfl, _⟩ := hk'.at_ (by omega)
    obtain ⟨hfin, hgr⟩ := fin _ _ _ (fun _ => rfl) rfl (by omega) (hb.mono (by simp))
    go_wp2
    go_ret2
    exact ⟨B, c', rfl, hk', hfin, hgr⟩

theorem Dr.below {w w1 : World} {d b n : Nat} {xs : List Value} (h : Dr w d b n xs) (hb : Below w.heap.size w w1) : Dr w1 d b n xs := by
  obtain ⟨A, c, h0, hc, hk, hA, hf, hd⟩ := h
  have hdl : d < w.heap.size := World.block_lt_of_cell? w ⟨d, 0, none⟩ h0
  exact ⟨A, c, pw_cell_below hb h0, hc, hk.below hb, hA, (hb.frozen (p := ⟨d, 0, none⟩) hdl).trans hf, hd⟩
theorem size29 : (Try.prog.info? 29).map (·.size) = some 32 := by kernel_rfl
/-- A key, loaded. -/
theorem load_key {w : World} {a : Addr} {ks : List Value} (hl : ks.length = 32) (hc : ∀ j u, ks[j]? = some u → w.cell? (a.add j) = some u) : (loadVar 29 a).run Try.prog w = .ok (.agg ks.toArray) w := by
  have h := run_loadCells_list (P := Try.prog) w a ks hc
  rw [hl] at h
  obtain ⟨i0, hi, hz0, hz1, hz2⟩ := info29'
  have hagg : (isAgg 29).run Try.prog w = .ok true w := by
    unfold isAgg
    rw [Sem.run_bind, run_underlying Try.underlying29 w]
    rfl
  simp [loadVar, Sem.run_bind, hagg, sizeOf, typeInfo, hi, hz1, h]

theorem wpList_load_run {P : Program} {w : World} {ops : Array Oper} {rest : List Oper} {o : Oper} {a : Act} {Q : Exit → Act → World → Prop} (hgd : o.guard = none) (ty : TypeId) (x : Operand) (ho : o.op = .load ty x)
    (ad : Addr) (hx : a.eval x = .pointer (some ad)) (v : Value) (hr : (loadVar ty ad).run P w = .ok v w) (h : wpList P ops Q rest (a.put o.dst v) w) : wpList P ops Q (o :: rest) a w := by
  refine wpList_plain hgd fun _ hK => ?_
  unfold Oper.wp execOp
  simp only [ho, hx, Instr.loadAt, Instr.sureAddr, Sem.run_bind, Sem.run_pure, Result.andThen_ok, hr]
  exact hK _ _ h
theorem wpList_store_run {P : Program} {w : World} {ops : Array Oper} {rest : List Oper} {o : Oper} {a : Act} {Q : Exit → Act → World → Prop} (hgd : o.guard = none) (ty : TypeId) (x y : Operand) (ho : o.op = .store ty x y) (hd : o.dst = none)
    (ad : Addr) (hx : a.eval x = .pointer (some ad)) (v : Value) (hy : a.eval y = v) (w' : World) (hr : (storeVar ty ad v).run P w = .ok () w') (h : wpList P ops Q rest a w') : wpList P ops Q (o :: rest) a w := by
  refine wpList_plain hgd fun _ hK => ?_
  unfold Oper.wp execOp
  simp only [ho, hx, hy, Instr.storeAt, Instr.sureAddr, Sem.run_bind, Sem.run_pure, Result.andThen_ok, hr]
  have hp : ∀ v, a.put o.dst v = a := fun v => by rw [hd]; rfl
  exact hK _ _ (by rw [hp]; exact h)
def Z32 : Array Value := #[.int .u8 0, .int .u8 0, .int .u8 0, .int .u8 0, .int .u8 0, .int .u8 0, .int .u8 0, .int .u8 0, .int .u8 0, .int .u8 0, .int .u8 0, .int .u8 0, .int .u8 0, .int .u8 0, .int .u8 0, .int .u8 0, .int .u8 0, .int .u8 0, .int .u8 0, .int .u8 0, .int .u8 0, .int .u8 0, .int .u8 0, .int .u8 0, .int .u8 0, .int .u8 0, .int .u8 0, .int .u8 0, .int .u8 0, .int .u8 0, .int .u8 0, .int .u8 0]
theorem Z32_size : Z32.size = 32 := rfl
set_option maxHeartbeats 2000000 in
set_option maxRecDepth 100000 in
theorem next_some (d b n : Nat) (xs : List Value) (w : World) (h : Dr w d b (n + 1) xs) (hbw0 : b ≤ w.heap.size) (hn : n < 1000) :
    Calls Try.prog 13 #[.pointer (some ⟨d, 0, none⟩)] w fun e w' => e = .returned (.tuple #[.agg (xs.take 32).toArray, .int .i64 0]) ∧ Dr w' d b n (xs.drop 32) ∧ w.grownBy w' (some d) := by
  have hdl : d < w.heap.size := by obtain ⟨A, c, h0, _⟩ := h; exact World.block_lt_of_cell? w ⟨d, 0, none⟩ h0
  go_enter Try.func13, Try.ntmps13
  go_wp2_with fail
  rw [show (#[.int .u8 0, .int .u8 0, .int .u8 0, .int .u8 0, .int .u8 0, .int .u8 0, .int .u8 0, .int .u8 0, .int .u8 0, .int .u8 0, .int .u8 0, .int .u8 0, .int .u8 0, .int .u8 0, .int .u8 0, .int .u8 0, .int .u8 0, .int .u8 0, .int .u8 0, .int .u8 0, .int .u8 0, .int .u8 0, .int .u8 0, .int .u8 0, .int .u8 0, .int .u8 0, .int .u8 0, .int .u8 0, .int .u8 0, .int .u8 0, .int .u8 0, .int .u8 0] : Array Value) = Z32 from rfl]
  have hb0 : Below w.heap.size w (w.alloc (.cells Z32 29)) := (Below.refl _ _).alloc (Nat.le_refl _) _
  have hr0 : (w.alloc (.cells Z32 29)).heap[w.heap.size]? = some (.cells Z32 29) := heap_alloc_new _ _
  refine (some_one d b n xs _ (h.below hb0) hn).mono ?_
  rintro e w1 ⟨B, cb, rfl, hk, hd, hg⟩
  have hr1 : w1.heap[w.heap.size]? = some (.cells Z32 29) := (hg.block _ (by simp) (fun e => by injection e with e; omega)).trans hr0
  have hkl : (xs.take 32).length = 32 := by have := hk.len; omega
  have hld := load_key hkl hk.cells
  have hone : (xs.take 32).toArray.all (·.oneCell') = true := Array.all_eq_true_iff_forall_mem.2 fun u hu => hk.bytes.one u (by simpa using hu)
  have hst := run_storeVar_row (P := Try.prog) w1 w.heap.size 29 29 Z32 (xs.take 32).toArray hr1 (by rw [size29]; simp [hkl]) (by simp [hkl, Z32_size]) hone
  have hnew := setRow_heap w1 w.heap.size Z32 (xs.take 32).toArray 29 (0, 0) hr1
  have hres := run_loadVar_row (P := Try.prog) _ w.heap.size 29 29 (xs.take 32).toArray (0, 0) _ hnew Try.underlying29 rfl (by rw [size29]; simp [hkl])
  have hbw : w.grownBy (w1.setRow w.heap.size (xs.take 32).toArray) (some d) := by
    refine ⟨hg.os, hg.tape, hg.output, ?_, fun k hkk hr => ?_⟩
    · have := hg.size; simp at this; simp [World.setRow]; omega
    · rw [setRow_other _ _ _ _ (by omega), hg.block k (by simp; omega) hr]; exact Below.heap_alloc _ _ _ hkk
  have hdr : Dr (w1.setRow w.heap.size (xs.take 32).toArray) d b n (xs.drop 32) := by
    obtain ⟨A, c, h0, hc, hkd, hA, hf, hne⟩ := hd
    have hblk : ∀ k, k ≠ w.heap.size → (w1.setRow w.heap.size (xs.take 32).toArray).heap[k]? = w1.heap[k]? := fun k hk => setRow_other _ _ _ _ hk
    refine ⟨A, c, (World.cell?_of_block (a := ⟨d, 0, none⟩) (hblk d (by omega))).trans h0, hc, ⟨hkd.len, hkd.bytes, fun hp => ?_⟩, hA, (World.frozen?_of_block (a := ⟨d, 0, none⟩) (hblk d (by omega))).trans hf, hne⟩
    obtain ⟨a, ha, hca⟩ := hkd.at_ hp
    refine ⟨a, ha, fun j u hj => ?_⟩
    have hl := (hne a ha).2
    exact (World.cell?_of_block (hblk (a.add j).block (by rw [add_block]; omega))).trans (hca j u hj)
  generalize w1.setRow w.heap.size (xs.take 32).toArray = w2 at hst hnew hres hbw hdr
  go_wp2_with (first | (refine wpList_load_run rfl 29 _ rfl B rfl _ hld ?_) | (refine wpList_store_run rfl 29 _ _ rfl rfl _ rfl _ rfl _ hst ?_))
  refine bodyPost_ret (v := .tuple #[.agg (xs.take 32).toArray, .int .i64 0]) ?_ rfl ⟨rfl, hdr, hbw⟩
  rw [results_cell_tmp rfl]
  simp [asAddr, hres, Result.andThen]

set_option maxHeartbeats 2000000 in
set_option maxRecDepth 100000 in
theorem next_none (d b : Nat) (xs : List Value) (w : World) (h : Dr w d b 0 xs) :
    Calls Try.prog 13 #[.pointer (some ⟨d, 0, none⟩)] w fun e w' => e = .returned (.tuple #[.agg Z32, .int .i64 8]) ∧ Below w.heap.size w w' := by
  go_enter Try.func13, Try.ntmps13
  go_wp2_with fail
  rw [show (#[.int .u8 0, .int .u8 0, .int .u8 0, .int .u8 0, .int .u8 0, .int .u8 0, .int .u8 0, .int .u8 0, .int .u8 0, .int .u8 0, .int .u8 0, .int .u8 0, .int .u8 0, .int .u8 0, .int .u8 0, .int .u8 0, .int .u8 0, .int .u8 0, .int .u8 0, .int .u8 0, .int .u8 0, .int .u8 0, .int .u8 0, .int .u8 0, .int .u8 0, .int .u8 0, .int .u8 0, .int .u8 0, .int .u8 0, .int .u8 0, .int .u8 0, .int .u8 0] : Array Value) = Z32 from rfl]
  have hb0 : Below w.heap.size w (w.alloc (.cells Z32 29)) := (Below.refl _ _).alloc (Nat.le_refl _) _
  have hr0 : (w.alloc (.cells Z32 29)).heap[w.heap.size]? = some (.cells Z32 29) := heap_alloc_new _ _
  refine (some_less d b 0 1 xs _ (h.below hb0) (by omega) (by omega)).mono ?_
  rintro e w1 ⟨rfl, rfl⟩
  have hst := run_storeVar_row (P := Try.prog) _ w.heap.size 29 29 Z32 Z32 hr0 (by rw [size29]; rfl) rfl (by kernel_rfl)
  have hnew := setRow_heap _ w.heap.size Z32 Z32 29 (0, 0) hr0
  have hres := run_loadVar_row (P := Try.prog) _ w.heap.size 29 29 Z32 (0, 0) _ hnew Try.underlying29 rfl (by rw [size29]; rfl)
  have hbw : Below w.heap.size w ((w.alloc (.cells Z32 29)).setRow w.heap.size Z32) :=
    ⟨rfl, rfl, rfl, by simp [World.setRow], fun k hk => (setRow_other _ _ _ _ (by omega)).trans (Below.heap_alloc _ _ _ hk)⟩
  generalize (w.alloc (.cells Z32 29)).setRow w.heap.size Z32 = w2 at hst hnew hres hbw
  go_wp2_with (first | (refine wpList_store_run rfl 29 _ _ rfl rfl _ rfl _ rfl _ hst ?_))
  refine bodyPost_ret (v := .tuple #[.agg Z32, .int .i64 8]) ?_ rfl ⟨rfl, hbw⟩
  rw [results_cell_tmp rfl]
  simp [asAddr, hres, Result.andThen]
end Go.Proofs.Ytomihbanpjedeaa
