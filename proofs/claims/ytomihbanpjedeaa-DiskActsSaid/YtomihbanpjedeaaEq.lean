/- Keys that are alike are equal. -/
import Derived.Test.YtomihbanpjedeaaDraws
namespace Go.Proofs.Ytomihbanpjedeaa
open Go.RowKit
set_option linter.unusedSimpArgs false

theorem eq_keys {ks : List Value} (hl : ks.length = 32) (hb : Bytes ks) (d : Nat) (w : World) : (Op.equalIn (d + 1 + 1) 29 (.agg ks.toArray) (.agg ks.toArray)).run Try.prog w = .ok true w := by
  have h5 : ∀ w, (sizeOf 5).run Try.prog w = .ok 1 w := fun w => by
    have h : (Try.prog.info? 5).map (·.size) = some 1 := by kernel_rfl
    obtain ⟨i, hi, hs⟩ := Option.map_eq_some_iff.1 h
    simp [sizeOf, typeInfo, hi, hs]
  have hp : ∀ i, i < 32 → ∀ w, (part 5 ks.toArray i).run Try.prog w = .ok (ks.getD i undef) w := by
    intro i hi w
    have ha : (isAgg 5).run Try.prog w = .ok false w := by
      unfold isAgg; rw [Sem.run_bind, run_underlying Try.underlying5 w]; rfl
    have hg : ks.toArray[i]? = some (ks.getD i undef) := by simp [List.getD, List.getElem?_eq_getElem (show i < ks.length by omega)]
    simp only [part, Sem.run_bind, ha, Result.andThen, hg]
    rfl
  have he : ∀ i, i < 32 → ∀ w, (Op.equalIn (d + 1) 5 (ks.getD i undef) (ks.getD i undef)).run Try.prog w = .ok true w := by
    intro i hi w
    obtain ⟨x, hx⟩ := hb (ks.getD i undef) (by simp [List.getD, List.getElem?_eq_getElem (show i < ks.length by omega)])
    rw [hx]
    simp [Op.equalIn, run_underlying Try.underlying5]
  have loop : ∀ (l : List Nat), (∀ i ∈ l, i < 32) → ∀ w, (forIn l ((none, ()) : Option Bool × PUnit) fun i _ => do
      if !(← Op.equalIn (d + 1) 5 (← part 5 ks.toArray (i * 1)) (← part 5 ks.toArray (i * 1))) then pure (.done (some false, ())) else pure (.yield (none, ())) : Sem (Option Bool × PUnit)).run Try.prog w = .ok (none, ()) w := by
    intro l
    induction l with
    | nil => intro _ w; rfl
    | cons i l ih =>
      intro hi w
      simp only [List.forIn_cons, Nat.mul_one, Sem.run_bind, hp i (hi i (by simp)), he i (hi i (by simp)), Result.andThen]
      simpa using ih (fun j hj => hi j (by simp [hj])) w
  generalize d + 1 = q at he loop ⊢
  rw [Op.equalIn]
  simp only [Sem.run_bind, run_underlying Try.underlying29, Result.andThen, h5]
  simp only [Std.Legacy.Range.forIn_eq_forIn_range']
  rw [loop _ (fun i hi => by simp [Std.Legacy.Range.size] at hi; omega)]
  rfl
theorem neq_keys {ks : List Value} (hl : ks.length = 32) (hb : Bytes ks) (w : World) : (binOp .neq 29 (.agg ks.toArray) (.agg ks.toArray)).run Try.prog w = .ok (.bool false) w := by
  rw [run_neq_struct, show (10000 : Nat) = 9998 + 2 from rfl, eq_keys hl hb]
  rfl

section
variable {P : Program} {ops : Array Oper} {C : World → Prop} {a : Act} {o : Oper} {K : Act → Prop}
theorem quiet_load (ty : TypeId) (x : Operand) (ho : o.op = .load ty x) (ad : Addr) (hx : a.eval x = .pointer (some ad)) (v : Value) (hr : ∀ w, C w → (loadVar ty ad).run P w = .ok v w) (hk : K (a.put o.dst v)) : o.quiet P a C K :=
  ⟨v, fun w hw => by
    unfold Oper.quietAt execOp
    simp only [ho, hx, Instr.loadAt, Instr.sureAddr, Sem.run_bind, Sem.run_pure, Result.andThen_ok, hr w hw]
    exact ⟨rfl, rfl⟩, hk⟩
end
theorem key_at {w : World} {A : Option Addr} {n k : Nat} {xs : List Value} (h : Keys w A n xs) (hk : k < n) : ∃ a, A = some a ∧ ((xs.drop (k * 32)).take 32).length = 32 ∧ Bytes ((xs.drop (k * 32)).take 32) ∧ ∀ j u, ((xs.drop (k * 32)).take 32)[j]? = some u → w.cell? ((a.add (k * 32)).add j) = some u := by
  obtain ⟨a, ha, hc⟩ := h.at_ (by omega)
  refine ⟨a, ha, ?_, fun u hu => h.bytes u (List.mem_of_mem_drop (List.mem_of_mem_take hu)), fun j u hj => ?_⟩
  · rw [List.length_take, List.length_drop, h.len]; omega
  · rw [List.getElem?_take] at hj
    split at hj
    · rw [List.getElem?_drop] at hj
      rw [Addr.add_add]; exact hc _ u hj
    · cases hj

set_option maxHeartbeats 2000000 in
set_option maxRecDepth 100000 in
theorem same_calls (A B : Option Addr) (n ca cb : Nat) (xs : List Value) (w : World) (h : Keys w A n xs) (h' : Keys w B n xs) (hn : n ≤ 1000) :
    Calls Try.prog 14 #[.slice A n ca, .slice B n cb] w fun e w' => e = .returned (.bool true) ∧ ∃ m, w' = w.drewN m := by
  go_enter Try.func14, Try.ntmps14
  go_wp2
  go_loopw [13] (fun i wr => ∃ k : Nat, k ≤ n ∧ i = .int .i64 k ∧ ∃ m, wr = w.drewN m) (fun i _ => n - (intOf i).toNat)
  case atStart => exact ⟨0, by omega, rfl, 0, rfl⟩
  case round =>
    obtain ⟨k, hk, rfl, m, rfl⟩ := hrel
    by_cases hlt : k < n
    · obtain ⟨a, rfl, hl, hby, hca⟩ := key_at h hlt
      obtain ⟨b, rfl, _, _, hcb⟩ := key_at h' hlt
      generalize (xs.drop (k * 32)).take 32 = ks at hl hby hca hcb
      have la : ∀ q, (loadVar 29 (a.add (k * 32))).run Try.prog (w.drewN q) = .ok (.agg ks.toArray) (w.drewN q) := fun q => load_key hl hca
      have lb : ∀ q, (loadVar 29 (b.add (k * 32))).run Try.prog (w.drewN q) = .ok (.agg ks.toArray) (w.drewN q) := fun q => load_key hl hcb
      have hne := neq_keys hl hby
      have i1 : (0 : Int) ≤ (k : Int) := by omega
      have i2 : (k : Int) < (n : Int) := by omega
      go_wp2_with fail
      refine wp_region_quiet_lit (by kernel_rfl) (by kernel_rfl) ?_
      quiet_step (fail)
      quiet_step (fail)
      quiet_step (fail)
      refine BigFrame.wpQuiet_want (by rfl) fun K hK => quiet_load 29 _ rfl (a.add (k * 32)) rfl (.agg ks.toArray) (fun w' hw' => by obtain ⟨q, rfl⟩ := hw'; exact load_key hl hca) (hK _ ?_)
      quiet_step (fail)
      quiet_step (fail)
      quiet_step (fail)
      refine BigFrame.wpQuiet_want (by rfl) fun K hK => quiet_load 29 _ rfl (b.add (k * 32)) rfl (.agg ks.toArray) (fun w' hw' => by obtain ⟨q, rfl⟩ := hw'; exact load_key hl hcb) (hK _ ?_)
      quiet_step (fail)
      refine wpQuiet_nil ?_
      intro w' hw'
      obtain ⟨q, rfl⟩ := hw'
      go_wp2
      exact ⟨⟨k + 1, by omega, by go_num, m + q, rfl⟩, by simp [intOf]; omega⟩
    · obtain rfl : k = n := by omega
      go_wp2
      go_ret
      exact ⟨rfl, m, rfl⟩

def isByte : Value → Bool
  | .int .u8 n => decide (0 ≤ n) && decide (n < 256)
  | _ => false
theorem bytes_of_all {xs : List Value} (h : xs.all isByte = true) : Bytes xs := by
  intro u hu
  have := List.all_eq_true.1 h u hu
  unfold isByte at this
  split at this
  · next n =>
    simp only [Bool.and_eq_true, decide_eq_true_eq] at this
    refine ⟨UInt8.ofNat n.toNat, ?_⟩
    rw [UInt8.toNat_ofNat_of_lt' (by show n.toNat < 256; omega)]
    congr 1
    omega
  · cases this
def L64 : List Value := [.int .u8 1, .int .u8 0, .int .u8 0, .int .u8 0, .int .u8 0, .int .u8 0, .int .u8 0, .int .u8 0, .int .u8 0, .int .u8 0, .int .u8 0, .int .u8 0, .int .u8 0, .int .u8 0, .int .u8 0, .int .u8 0, .int .u8 0, .int .u8 0, .int .u8 0, .int .u8 0, .int .u8 0, .int .u8 0, .int .u8 0, .int .u8 0, .int .u8 0, .int .u8 0, .int .u8 0, .int .u8 0, .int .u8 0, .int .u8 0, .int .u8 0, .int .u8 0, .int .u8 2, .int .u8 0, .int .u8 0, .int .u8 0, .int .u8 0, .int .u8 0, .int .u8 0, .int .u8 0, .int .u8 0, .int .u8 0, .int .u8 0, .int .u8 0, .int .u8 0, .int .u8 0, .int .u8 0, .int .u8 0, .int .u8 0, .int .u8 0, .int .u8 0, .int .u8 0, .int .u8 0, .int .u8 0, .int .u8 0, .int .u8 0, .int .u8 0, .int .u8 0, .int .u8 0, .int .u8 0, .int .u8 0, .int .u8 0, .int .u8 0, .int .u8 0]
theorem row_keys {w : World} {xs : List Value} {n : Nat} {t : TypeId} (hl : xs.length = n * 32) (hb : Bytes xs) : Keys (w.alloc (.cells xs.toArray t)) (some ⟨w.heap.size, 0, none⟩) n xs :=
  ⟨hl, hb, fun _ => ⟨_, rfl, fun j u hj => by
    have hadd : (⟨w.heap.size, 0, none⟩ : Addr).add j = ⟨w.heap.size, j, none⟩ := by unfold Addr.add; split <;> simp_all
    rw [hadd, cell_of_row _ _ j _ _ _ (heap_alloc_new w _)]
    simpa using hj⟩⟩
set_option maxHeartbeats 2000000 in
set_option maxRecDepth 100000 in
theorem wakes_calls (w : World) : Calls Try.prog 9 #[] w fun e w' => e = .returned (.bool true) ∧ Below w.heap.size w w' := by
  go_enter Try.func9, Try.ntmps9
  go_wp2_with fail
  rw [show (#[.int .u8 1, .int .u8 0, .int .u8 0, .int .u8 0, .int .u8 0, .int .u8 0, .int .u8 0, .int .u8 0, .int .u8 0, .int .u8 0, .int .u8 0, .int .u8 0, .int .u8 0, .int .u8 0, .int .u8 0, .int .u8 0, .int .u8 0, .int .u8 0, .int .u8 0, .int .u8 0, .int .u8 0, .int .u8 0, .int .u8 0, .int .u8 0, .int .u8 0, .int .u8 0, .int .u8 0, .int .u8 0, .int .u8 0, .int .u8 0, .int .u8 0, .int .u8 0, .int .u8 2, .int .u8 0, .int .u8 0, .int .u8 0, .int .u8 0, .int .u8 0, .int .u8 0, .int .u8 0, .int .u8 0, .int .u8 0, .int .u8 0, .int .u8 0, .int .u8 0, .int .u8 0, .int .u8 0, .int .u8 0, .int .u8 0, .int .u8 0, .int .u8 0, .int .u8 0, .int .u8 0, .int .u8 0, .int .u8 0, .int .u8 0, .int .u8 0, .int .u8 0, .int .u8 0, .int .u8 0, .int .u8 0, .int .u8 0, .int .u8 0, .int .u8 0] : Array Value) = L64.toArray from rfl]
  refine (new_calls _ 2 2 L64 _ (row_keys (by rfl) (bytes_of_all (by rfl))) (by omega)).mono ?_
  rintro e w1 ⟨d, rfl, hd1, hd2, hd, hb⟩
  have hbb : Below w.heap.size w w1 := ((Below.refl _ w).alloc (Nat.le_refl _) _).trans (hb.mono (by simp))
  go_wp2_with fail
  refine (some_less d d 2 3 L64 _ hd (by omega) (by omega)).mono ?_
  rintro e w2 ⟨rfl, rfl⟩
  go_wp2_with fail
  refine (left_calls d d 2 L64 _ hd).mono ?_
  rintro e w3 ⟨rfl, rfl⟩
  go_wp2_with fail
  go_ret
  exact ⟨rfl, hbb⟩
end Go.Proofs.Ytomihbanpjedeaa
