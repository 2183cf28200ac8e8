/- Keys in memory: a slice of them; contracts of Clone, Grow, Concat over them. -/
import Derived.Test.YtomihbanpjedeaaProg
import Derived.WalkKit
import Derived.BigQuiet
import Derived.OwnWalk
import Derived.Deep.QuietTactic
import Derived.WalkLawsBesides
import Derived.WalkSpells
import Derived.Lib.Hide
import Derived.Lib.Walk
import Derived.Lib.AppendZerosOnto
import Derived.Laws.AppendOwnNone
namespace Go.Proofs.Ytomihbanpjedeaa
open Go.RowKit
set_option linter.unusedSimpArgs false

/-- A byte's value. -/
def Bytes (xs : List Value) : Prop := ∀ u ∈ xs, ∃ x : UInt8, u = .int .u8 (x.toNat : Int)
/-- n keys, from A on; nil has none. -/
structure Keys (w : World) (A : Option Addr) (n : Nat) (xs : List Value) : Prop where
  len : xs.length = n * 32
  bytes : Bytes xs
  at_ : 0 < n → ∃ a, A = some a ∧ ∀ j u, xs[j]? = some u → w.cell? (a.add j) = some u
theorem Bytes.one {xs : List Value} (h : Bytes xs) : ∀ u ∈ xs, u.oneCell' = true := fun u hu => by obtain ⟨x, rfl⟩ := h u hu; rfl
theorem Bytes.append {xs ys : List Value} (h : Bytes xs) (k : Bytes ys) : Bytes (xs ++ ys) := fun u hu => (List.mem_append.1 hu).elim (h u) (k u)
theorem Keys.cells {w : World} {a : Addr} {n : Nat} {xs : List Value} (h : Keys w (some a) n xs) : ∀ j u, xs[j]? = some u → w.cell? (a.add j) = some u := by
  intro j u hj
  by_cases hn : 0 < n
  · obtain ⟨b, hb, hc⟩ := h.at_ hn
    cases hb
    exact hc j u hj
  · have : xs = [] := List.eq_nil_of_length_eq_zero (by rw [h.len]; omega)
    subst this
    simp at hj
theorem Keys.below {w w1 : World} {A : Option Addr} {n : Nat} {xs : List Value} (h : Keys w A n xs) (hb : Below w.heap.size w w1) : Keys w1 A n xs :=
  ⟨h.len, h.bytes, fun hn => by
    obtain ⟨a, ha, hc⟩ := h.at_ hn
    exact ⟨a, ha, fun j u hj => (hb.cell (World.block_lt_of_cell? w _ (hc j u hj))).trans (hc j u hj)⟩⟩

theorem info29 : (Try.prog.info? 29).map (fun i => (i.zero, i.size, i.bytes)) = some (some (.agg (Array.replicate 32 (.int .u8 0))), 32, 32) := by kernel_rfl
theorem info29' : ∃ i, Try.prog.info? 29 = some i ∧ i.zero = some (.agg (Array.replicate 32 (.int .u8 0))) ∧ i.size = 32 ∧ i.bytes = 32 := by
  obtain ⟨i, hi, h⟩ := Option.map_eq_some_iff.1 info29
  simp only [Prod.mk.injEq] at h
  exact ⟨i, hi, h.1, h.2.1, h.2.2⟩
theorem zsize : (Value.agg (Array.replicate 32 (.int .u8 0))).cells.size = 32 := by kernel_rfl

set_option maxHeartbeats 2000000 in
set_option maxRecDepth 100000 in
theorem clone_some (a : Addr) (n c : Nat) (xs : List Value) (w : World) (h : Keys w (some a) n xs) (hn : n ≤ 1000) :
    Calls Try.prog 32 #[.slice (some a) n c] w fun e w' => ∃ v, e = .returned v ∧ w'.ownsRow w.heap.size 29 32 v n xs ∧ Below w.heap.size w w' := by
  obtain ⟨i0, hi, hz0, hz1, hz2⟩ := info29'
  have A : Hid (∀ j u, xs[j]? = some u → w.cell? (a.add j) = some u) := h.cells
  have hlen := h.len
  have h1 := h.bytes.one
  clear h
  have q22 : ∀ (w : World) (a : Option Addr) (n c n' c' : Nat), (binOp .eql 22 (.slice a n c) (.slice none n' c')).run Try.prog w = .ok (.bool a.isNone) w := fun w a n c n' c' => Lib.run_eql_slice_nil w _ _ a n c n' c' Try.underlying22
  go_enter Try.func32, Try.ntmps32
  go_wp2_with (at_builtin; refine wpList_append_own _ rfl _ _ 22 rfl w.heap.size 29 i0 _ 32 32 Try.underlying22 hi hz0 hz1 hz2 zsize (by decide) _ _ _ rfl (World.ownsRow_made w #[] 0 (Nat.le_refl _) (Nat.zero_le _) (by simp)) a n c xs rfl ?qc1 ?qc2 ?qc3 ?qc4 ?qc5 ?qc6 ?_)
  case qc1 => exact hlen
  case qc2 =>
    intro j u hj
    exact Lib.cell?_alloc_some _ (A.out j u hj)
  case qc3 => exact h1
  case qc4 => unfold maxLen; omega
  case qc5 => omega
  case qc6 => simp
  intro v' w1 hown hgrow hnil
  go_wp2
  go_ret
  refine ⟨v', rfl, by simpa using hown, ?_⟩
  exact ((Below.refl _ w).alloc (Nat.le_refl _) _).grown hgrow (by simp) (by intro k hk; simp [Value.ownBlock] at hk; omega)
set_option maxHeartbeats 1000000 in
theorem clone_nil (n c : Nat) (w : World) :
    Calls Try.prog 32 #[.slice none n c] w fun e w' => e = .returned (.slice none 0 0) ∧ w' = w := by
  have q22 : ∀ (w : World) (a : Option Addr) (n c n' c' : Nat), (binOp .eql 22 (.slice a n c) (.slice none n' c')).run Try.prog w = .ok (.bool a.isNone) w := fun w a n c n' c' => Lib.run_eql_slice_nil w _ _ a n c n' c' Try.underlying22
  go_enter Try.func32, Try.ntmps32
  go_wp2
  go_ret
  exact ⟨rfl, rfl⟩
theorem clone_any (A : Option Addr) (n c : Nat) (xs : List Value) (w : World) (h : Keys w A n xs) (hn : n ≤ 1000) :
    Calls Try.prog 32 #[.slice A n c] w fun e w' => ∃ v, e = .returned v ∧ w'.ownsRow w.heap.size 29 32 v n xs ∧ Below w.heap.size w w' := by
  cases A with
  | some a => exact clone_some a n c xs w h hn
  | none =>
    have h0 : n = 0 := by
      by_cases h0 : 0 < n
      · obtain ⟨a, ha, _⟩ := h.at_ h0; cases ha
      · omega
    subst h0
    have : xs = [] := List.eq_nil_of_length_eq_zero (by simpa using h.len)
    subst this
    exact (clone_nil 0 c w).mono fun e w' ⟨he, hw⟩ => ⟨_, he, by subst hw; exact World.ownsRow_nil _ _ _ _, by subst hw; exact Below.refl _ _⟩

set_option maxHeartbeats 2000000 in
set_option maxRecDepth 100000 in
theorem grow_calls (n : Nat) (h0 : 0 < n) (hn : n ≤ 1000) (w : World) :
    Calls Try.prog 43 #[.slice none 0 0, .int .i64 (n : Int)] w fun e w' => ∃ c, e = .returned (.slice (some ⟨w.heap.size, 0, none⟩) 0 c) ∧ w'.ownsRow w.heap.size 29 32 (.slice (some ⟨w.heap.size, 0, none⟩) 0 c) 0 [] ∧ n ≤ c ∧ Below w.heap.size w w' := by
  obtain ⟨i0, hi, hz0, hz1, hz2⟩ := info29'
  have hw : wrap64 (n : Int) = n := by unfold wrap64; omega
  have hr : ∀ ty, (Builtin.append_ #[22, 3] ty #[.slice none 0 0, .int .i64 (n : Int)]).run Try.prog w = _ :=
    fun ty => Lib.run_append_nil_zeros w 22 3 ty 29 i0 _ .i64 .i64 Try.underlying22 Try.underlying3 hi hz0 n h0 (by omega) (by omega) (by rw [hz2]; omega)
  have hn1 : ((n : Int) < 0) = False := by simp
  have hn2 : ((n : Int) > 0) = True := by simp; omega
  have hcap : n ≤ grownCap w n 0 29 := grownCap_ge w n 0 29
  have hcm : grownCap w n 0 29 ≤ maxLen := grownCap_le_maxLen w n 0 29 (by unfold maxLen; omega)
  obtain ⟨cs, hcs⟩ : ∃ cs, cs = Builtin.zeroCells (Value.agg (Array.replicate 32 (.int .u8 0))).cells n ++ Builtin.zeroCells (Value.agg (Array.replicate 32 (.int .u8 0))).cells (grownCap w n 0 29 - n) := ⟨_, rfl⟩
  have hsz : cs.size = grownCap w n 0 29 * 32 := by
    rw [hcs, Array.size_append, size_zeroCells, size_zeroCells, zsize, ← Nat.add_mul, Nat.add_sub_cancel' hcap]
  rw [← hcs] at hr
  clear hcs
  generalize grownCap w n 0 29 = c at hr hcap hcm hsz
  go_enter Try.func43, Try.ntmps43
  go_wp2_with (at_builtin; refine Lib.wpList_append_run _ rfl _ _ _ _ rfl _ _ rfl rfl _ _ (hr _) ?_)
  go_wp2
  go_ret
  refine ⟨c, rfl, World.ownsRow_made w.drew cs c (Nat.le_refl _) hcm hsz, hcap, ?_⟩
  exact (⟨rfl, rfl, rfl, Nat.le_refl _, fun _ _ => rfl⟩ : Below w.heap.size w w.drew).alloc (Nat.le_refl _) _

set_option maxHeartbeats 2000000 in
set_option maxRecDepth 100000 in
theorem grow_zero (w : World) : Calls Try.prog 43 #[.slice none 0 0, .int .i64 0] w fun e w' => e = .returned (.slice none 0 0) ∧ w' = w := by
  go_enter Try.func43, Try.ntmps43
  go_wp2
  go_ret
  exact ⟨rfl, rfl⟩
theorem grow_any (n : Nat) (hn : n ≤ 1000) (w : World) :
    Calls Try.prog 43 #[.slice none 0 0, .int .i64 (n : Int)] w fun e w' => ∃ v, e = .returned v ∧ w'.ownsRow w.heap.size 29 32 v 0 [] ∧ Below w.heap.size w w' := by
  by_cases h0 : 0 < n
  · exact (grow_calls n h0 hn w).mono fun e w' ⟨c, he, ho, _, hb⟩ => ⟨_, he, ho, hb⟩
  · obtain rfl : n = 0 := by omega
    exact (grow_zero w).mono fun e w' ⟨he, hw⟩ => ⟨_, he, by subst hw; exact World.ownsRow_nil _ _ _ _, by subst hw; exact Below.refl _ _⟩

/-- append, of keys. -/
theorem append_keys {w : World} {base : Nat} {v : Value} {n : Nat} {xs : List Value} (ho : w.ownsRow base 29 32 v n xs) (hb : base ≤ w.heap.size)
    {A : Option Addr} {m c : Nat} {ys : List Value} (hk : Keys w A m ys) (hA : A = none → c = 0) (hs : n + m ≤ 1000) (ty : TypeId) :
    ∃ v' w', (Builtin.append_ #[22, 22] ty #[v, .slice A m c]).run Try.prog w = .ok v' w' ∧ w'.ownsRow base 29 32 v' (n + m) (xs ++ ys) ∧ w.grownBy w' v.ownBlock := by
  obtain ⟨i0, hi, hz0, hz1, hz2⟩ := info29'
  cases A with
  | some a =>
    obtain ⟨v', w', h1, h2, h3, _⟩ := run_append_own (P := Try.prog) w base 22 ty 29 i0 _ 32 32 Try.underlying22 hi hz0 hz1 hz2 zsize (by decide) v n xs ho a m c ys hk.len hk.cells hk.bytes.one (by unfold maxLen; omega) (by omega) hb
    exact ⟨v', w', h1, h2, h3⟩
  | none =>
    have h0 : m = 0 := by
      by_cases h0 : 0 < m
      · obtain ⟨a, ha, _⟩ := hk.at_ h0; cases ha
      · omega
    subst h0
    obtain rfl := hA rfl
    have : ys = [] := List.eq_nil_of_length_eq_zero (by simpa using hk.len)
    subst this
    exact ⟨v, w, run_append_owned_none w base 22 ty 29 i0 32 Try.underlying22 hi v n xs ho, by simpa using ho, World.grownBy.refl _ _⟩
/-- What is owned reads as keys. -/
theorem own_keys {w : World} {base : Nat} {v : Value} {n : Nat} {xs : List Value} (ho : w.ownsRow base 29 32 v n xs) (hx : Bytes xs) : ∃ A c, v = .slice A n c ∧ n ≤ c ∧ Keys w A n xs ∧ (A = none → c = 0) ∧ (∀ a, A = some a → base ≤ a.block) := by
  rcases ho.2 with ⟨rfl, rfl⟩ | ⟨g, cap, cur, rfl, hbg, hg, hnc, hcm, hcs, htake⟩
  · exact ⟨none, 0, rfl, Nat.le_refl _, ⟨ho.1, hx, fun h => by omega⟩, fun _ => rfl, fun a h => by cases h⟩
  · exact ⟨_, _, rfl, hnc, ⟨ho.1, hx, fun _ => ⟨_, rfl, ho.cells (g := g) rfl⟩⟩, (fun h => by cases h), (fun a h => by cases h; exact hbg)⟩
theorem own_below {w w1 : World} {base : Nat} {v : Value} {n : Nat} {xs : List Value} (ho : w.ownsRow base 29 32 v n xs) (hb : Below w.heap.size w w1) : w1.ownsRow base 29 32 v n xs :=
  ho.kept (row := none) ⟨hb.os, hb.tape, hb.output, hb.size, fun i hi _ => hb.block i hi⟩ (by cases hv : v.ownBlock <;> simp)
theorem pw_cell_below {w w1 : World} (h : Below w.heap.size w w1) {a : Addr} {v : Value} (hc : w.cell? a = some v) : w1.cell? a = some v := (h.cell (World.block_lt_of_cell? w a hc)).trans hc
theorem own_base {w : World} {base : Nat} {v : Value} {n : Nat} {xs : List Value} (ho : w.ownsRow base 29 32 v n xs) : ∀ k, v.ownBlock = some k → base ≤ k := fun k hk => (ho.lt k hk).1

def tk (n m k : Nat) : Nat := if k = 0 then 0 else if k = 1 then n else n + m
def xk (xs ys : List Value) (k : Nat) : List Value := if k = 0 then [] else if k = 1 then xs else xs ++ ys

set_option maxHeartbeats 4000000 in
set_option maxRecDepth 100000 in
theorem concat_calls (g : Nat) (A B : Option Addr) (n m c d : Nat) (xs ys : List Value) (w : World) (h0 : w.cell? ⟨g, 0, none⟩ = some (.slice A n c)) (h1 : w.cell? ⟨g, 1, none⟩ = some (.slice B m d))
    (hx : Keys w A n xs) (hy : Keys w B m ys) (hA : A = none → c = 0) (hB : B = none → d = 0) (hn : n ≤ 200) (hm : m ≤ 200) :
    Calls Try.prog 33 #[.slice (some ⟨g, 0, none⟩) 2 2] w fun e w' => ∃ v, e = .returned v ∧ w'.ownsRow w.heap.size 29 32 v (n + m) (xs ++ ys) ∧ Below w.heap.size w w' := by
  go_enter Try.func33, Try.ntmps33
  go_wp2
  go_loopw [3, 11] (fun x i wr => ∃ k : Nat, k ≤ 2 ∧ i = .int .i64 k ∧ x = .int .i64 (tk n m k : Nat) ∧ w = wr) (fun _ i _ => 2 - (intOf i).toNat)
  case atStart => exact ⟨0, by omega, rfl, rfl, rfl⟩
  case round =>
    obtain ⟨k, hk, rfl, rfl, rfl⟩ := hrel
    by_cases hlt : k < 2
    · have hc : ∃ C l cc, w.cell? ⟨g, k, none⟩ = some (.slice C l cc) ∧ wrap64 ((tk n m k : Nat) + (l : Int)) = ((tk n m (k + 1) : Nat) : Int) := by
        obtain rfl | rfl : k = 0 ∨ k = 1 := by omega
        · refine ⟨_, _, _, h0, ?_⟩; simp only [tk]; unfold wrap64; simp; omega
        · refine ⟨_, _, _, h1, ?_⟩; simp only [tk]; unfold wrap64; simp; omega
      obtain ⟨C, l, cc, hc, hsum⟩ := hc
      have hneg : (((tk n m (k + 1) : Nat) : Int) < 0) = False := by simp
      have hi1 : (0 : Int) ≤ (k : Int) := by omega
      have hi2 : (k : Int) < 2 := by omega
      go_wp2
      exact ⟨⟨k + 1, by omega, by go_num, by rw [hsum], trivial⟩, by simp [intOf]; omega⟩
    · obtain rfl : k = 2 := by omega
      clear hlt hk
      obtain ⟨t, ht⟩ : ∃ t, t = tk n m 2 := ⟨_, rfl⟩
      have ht' := Lib.hid (show t = n + m from ht)
      rw [← ht]
      clear ht
      have ht3 : t ≤ 1000 := by have := ht'.out; omega
      have hneg : ((t : Int) < 0) = False := by simp
      go_wp2_with fail
      refine (grow_any t ht3 _).mono ?_
      rintro e w1 ⟨v, rfl, ho, hb⟩
      have H0 := Lib.hid h0
      have H1 := Lib.hid h1
      clear h0 h1
      go_wp2_with fail
      go_loopw [6, 27] (fun v i w2 => ∃ k : Nat, k ≤ 2 ∧ i = .int .i64 k ∧ w2.ownsRow w.heap.size 29 32 v (tk n m k) (xk xs ys k) ∧ Below w.heap.size w w2) (fun _ i _ => 2 - (intOf i).toNat)
      case atStart => exact ⟨0, by omega, rfl, ho, hb⟩
      case round =>
        clear hb ho
        obtain ⟨k, hk, rfl, ho, hb⟩ := hrel
        by_cases hlt : k < 2
        · have hc : ∃ C l cc zs, w.cell? ⟨g, k, none⟩ = some (.slice C l cc) ∧ Keys w C l zs ∧ (C = none → cc = 0) ∧ tk n m k + l ≤ 1000 ∧ tk n m (k + 1) = tk n m k + l ∧ xk xs ys (k + 1) = xk xs ys k ++ zs := by
            obtain rfl | rfl : k = 0 ∨ k = 1 := by omega
            · exact ⟨_, _, _, _, H0.out, hx, hA, by simp [tk]; omega, by simp [tk], by simp [xk]⟩
            · exact ⟨_, _, _, _, H1.out, hy, hB, by simp [tk]; omega, by simp [tk], by simp [xk]⟩
          obtain ⟨C, l, cc, zs, hc, hz, hC, hl, hsum, happ⟩ := hc
          have hi1 : (0 : Int) ≤ (k : Int) := by omega
          have hi2 : (k : Int) < 2 := by omega
          have hcw := pw_cell_below hb hc
          obtain ⟨v', w', hr, ho', hg⟩ := append_keys ho hb.size (hz.below hb) hC hl 22
          rw [← hsum, ← happ] at ho'
          have hb' : Below w.heap.size w w' := hb.grown hg hb.size (fun j hj => (ho.lt j hj).1)
          have HH := Lib.hid hl
          clear hc hl hsum happ hz hC
          go_wp2_with (at_builtin; refine Lib.wpList_append_run _ rfl _ _ _ _ rfl _ _ rfl rfl _ _ hr ?_)
          exact ⟨⟨k + 1, by omega, by go_num, ho', hb'⟩, by simp [intOf]; omega⟩
        · obtain rfl : k = 2 := by omega
          clear hlt hk
          go_wp2
          go_ret
          exact ⟨_, rfl, ho, hb⟩
end Go.Proofs.Ytomihbanpjedeaa
