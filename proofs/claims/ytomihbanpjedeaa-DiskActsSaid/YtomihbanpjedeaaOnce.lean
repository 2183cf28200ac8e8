/- DrawsOnce. -/
import Derived.Test.YtomihbanpjedeaaBuild
namespace Go.Proofs.Ytomihbanpjedeaa
open Go.RowKit
set_option linter.unusedSimpArgs false

def vlen : Value → Nat
  | .slice _ n _ => n
  | _ => 0
theorem len_less (A B : Option Addr) (n m c d : Nat) (h : ¬ (n ≤ 100 ∧ m ≤ 100)) (w : World) :
    Calls Try.prog 3 #[.slice A n c, .slice B m d] w fun e w' => e = .returned (.bool true) ∧ Below w.heap.size w w' := by
  go_enter Try.func3, Try.ntmps3
  go_wp2_with fail
  refine (wakes_calls w).mono ?_
  rintro e w1 ⟨rfl, hb⟩
  by_cases hn : n ≤ 100
  · have t1 : decide ((n : Int) > 100) = false := by simp; omega
    have t2 : decide ((m : Int) > 100) = true := by simp; omega
    go_wp2_with fail
    go_ret
    exact ⟨rfl, hb⟩
  · have t1 : decide ((n : Int) > 100) = true := by simp; omega
    go_wp2_with fail
    go_ret
    exact ⟨rfl, hb⟩

set_option maxHeartbeats 4000000 in
set_option maxRecDepth 100000 in
theorem once (A B : Option Addr) (n m c d : Nat) (xs ys : List Value) (w : World) (hx : Keys w A n xs) (hy : Keys w B m ys) (hA : A = none → c = 0) (hB : B = none → d = 0) (hn : n ≤ 100) (hm : m ≤ 100) :
    Calls Try.prog 3 #[.slice A n c, .slice B m d] w fun e w' => e = .returned (.bool true) ∧ Below w.heap.size w w' := by
  have t1 : decide ((n : Int) > 100) = false := by simp; omega
  have t2 : decide ((m : Int) > 100) = false := by simp; omega
  go_enter Try.func3, Try.ntmps3
  go_wp2_with fail
  refine (wakes_calls w).mono ?_
  rintro e w1 ⟨rfl, hb1⟩
  have hx1 := hx.below hb1
  have hy1 := hy.below hb1
  go_wp2_with fail
  refine (new_calls A n c xs w1 hx1 (by omega)).mono ?_
  rintro e w2 ⟨q, rfl, hq1, hq2, hd, hb2⟩
  have hy2 := hy1.below hb2
  have hb2' : Below w.heap.size w w2 := hb1.trans (hb2.mono hb1.size)
  go_wp2_with fail
  refine (more_calls q q n m d xs ys B w2 hd hy2 hB (by omega) (by omega)).mono ?_
  rintro e w3 ⟨rfl, hd3, hg3⟩
  have hb3 : Below w.heap.size w w3 := hb2'.grown hg3 hb2'.size (fun k hk => by injection hk with hk; have := hb1.size; omega)
  obtain ⟨b, hbb⟩ : ∃ b, b = w3.heap.size := ⟨_, rfl⟩
  rw [← hbb] at hd3
  have hwq : w.heap.size ≤ q := by have := hb1.size; omega
  have hqb : q < b := by have := hg3.size; omega
  have hwb : w.heap.size ≤ b := by have := hb3.size; omega
  obtain ⟨N, hN⟩ : ∃ N, N = n + m := ⟨_, rfl⟩
  obtain ⟨zs, hzs⟩ : ∃ zs, zs = xs ++ ys := ⟨_, rfl⟩
  have hzl : zs.length = N * 32 := by rw [hzs, List.length_append, hx.len, hy.len, hN, Nat.add_mul]
  have hzb : Bytes zs := by rw [hzs]; exact hx.bytes.append hy.bytes
  rw [← hN, ← hzs] at hd3
  have hN2 : N ≤ 200 := by omega
  have HN := Lib.hid hN
  have HZ := Lib.hid hzs
  have hb0 : b ≤ w3.heap.size := by omega
  clear hN hzs hbb hd hx1 hy1 hy2 hg3 hb2' hb2 hb1 hq1 hq2
  go_wp2_with fail
  go_loopw [6] (fun v wr => ∃ k : Nat, k ≤ N ∧ wr.ownsRow b 29 32 v k (zs.take (k * 32)) ∧ Dr wr q b (N - k) (zs.drop (k * 32)) ∧ b ≤ wr.heap.size ∧ Below w.heap.size w wr) (fun v _ => N - vlen v)
  case atStart => exact ⟨0, by omega, by simpa using World.ownsRow_nil _ _ _ _, by simpa using hd3, hb0, hb3⟩
  case round =>
    clear hd3 hb0 hb3
    obtain ⟨k, hk, ho, hd, hbw, hb⟩ := hrel
    by_cases hlt : k < N
    · obtain ⟨r, hr⟩ : ∃ r, N - k = r + 1 := ⟨N - k - 1, by omega⟩
      rw [hr] at hd
      obtain ⟨V, cv, rfl, hcv, hkv, hVn, hVb⟩ := own_keys ho (fun u hu => hzb u (List.mem_of_mem_take hu))
      have t3 : decide (((r + 1 : Nat) : Int) > 0) = true := by simp
      have t4 : decide ((k : Int) ≤ 200) = true := by simp; omega
      go_wp2_with fail
      refine (left_calls q b (r + 1) _ _ hd).mono ?_
      rintro e w4 ⟨rfl, rfl⟩
      go_wp2_with fail
      refine (next_some q b r _ _ hd hbw (by omega)).mono ?_
      rintro e w5 ⟨rfl, hd5, hg5⟩
      have hkl : ((zs.drop (k * 32)).take 32).length = 32 := by rw [List.length_take, List.length_drop, hzl]; omega
      have hkb : Bytes ((zs.drop (k * 32)).take 32) := fun u hu => hzb u (List.mem_of_mem_drop (List.mem_of_mem_take hu))
      have happ : zs.take ((k + 1) * 32) = zs.take (k * 32) ++ (zs.drop (k * 32)).take 32 := by rw [Nat.add_mul, Nat.one_mul, List.take_add]
      have hdrop : zs.drop ((k + 1) * 32) = (zs.drop (k * 32)).drop 32 := by rw [Nat.add_mul, Nat.one_mul, List.drop_drop]
      rw [← hdrop] at hd5
      have ho5 : w5.ownsRow b 29 32 (.slice V k cv) k (zs.take (k * 32)) := ho.kept hg5 (by
        cases hv : Value.ownBlock (.slice V k cv) with
        | none => exact .inl rfl
        | some g => exact .inr (fun e => by have := (ho.lt g hv).1; injection e; omega))
      have hb5 : Below w.heap.size w w5 := hb.grown hg5 (by omega) (fun j hj => by injection hj with hj; omega)
      have hb55 : b ≤ w5.heap.size := by have := hg5.size; omega
      generalize (zs.drop (k * 32)).take 32 = ks at hkl hkb happ ⊢
      have hone : ks.toArray.all (·.oneCell') = true := Array.all_eq_true_iff_forall_mem.2 fun u hu => hkb.one u (by simpa using hu)
      have hst : (storeVar 29 ⟨w5.heap.size, 0, none⟩ (.agg ks.toArray)).run Try.prog (w5.alloc (.cells Z32 29)) = .ok () (w5.alloc (.cells ks.toArray 29)) := run_storeVar_new w5 29 Z32 ks.toArray (by rw [size29]; simp [hkl]) (by simp [hkl, Z32_size]) hone
      have hld : (loadVar 29 ⟨w5.heap.size, 0, none⟩).run Try.prog (w5.alloc (.cells ks.toArray 29)) = .ok (.agg ks.toArray) (w5.alloc (.cells ks.toArray 29)) := run_loadVar_new w5 29 ks.toArray 32 5 Try.underlying29 (by rw [size29]; simp [hkl])
      have hfold : List.foldl (fun cs (x : Value × Nat) => cs.setIfInBounds x.snd x.fst) (#[.int .u8 0, .int .u8 0, .int .u8 0, .int .u8 0, .int .u8 0, .int .u8 0, .int .u8 0, .int .u8 0, .int .u8 0, .int .u8 0, .int .u8 0, .int .u8 0, .int .u8 0, .int .u8 0, .int .u8 0, .int .u8 0, .int .u8 0, .int .u8 0, .int .u8 0, .int .u8 0, .int .u8 0, .int .u8 0, .int .u8 0, .int .u8 0, .int .u8 0, .int .u8 0, .int .u8 0, .int .u8 0, .int .u8 0, .int .u8 0, .int .u8 0, .int .u8 0] : Array Value) ks.zipIdx = ks.toArray := by
        have := fold_set ks 0 Z32 (by rw [Z32_size]; omega)
        simpa [Z32] using this
      have hb6 : Below w.heap.size w ((w5.alloc (.cells ks.toArray 29)).alloc (.cells ks.toArray 29)) := (hb5.alloc hb5.size _).alloc (by have := hb5.size; simp; omega) _
      have hbw6 : Below w5.heap.size w5 ((w5.alloc (.cells ks.toArray 29)).alloc (.cells ks.toArray 29)) := ((Below.refl _ w5).alloc (Nat.le_refl _) _).alloc (by simp) _
      have ho6 := own_below ho5 hbw6
      have hd6 := hd5.below hbw6
      have hk6 : Keys ((w5.alloc (.cells ks.toArray 29)).alloc (.cells ks.toArray 29)) (some ⟨w5.heap.size + 1, 0, none⟩) 1 ks := by
        have := row_keys (w := w5.alloc (.cells ks.toArray 29)) (t := 29) (n := 1) (by omega) hkb
        simpa using this
      obtain ⟨v', w', hr', ho', hg'⟩ := append_keys (m := 1) (c := 1) ho6 (by simp; omega) hk6 (by intro h; cases h) (by omega) 22
      rw [← happ] at ho'
      have hd' : Dr w' q b r (zs.drop ((k + 1) * 32)) := by
        obtain ⟨AA, cc, h0, hc, hkd, hAA, hf, hne⟩ := hd6
        have hq' : some q ≠ Value.ownBlock (.slice V k cv) := fun e => by have := (ho6.lt q e.symm).1; omega
        have hblk : ∀ j, j < ((w5.alloc (.cells ks.toArray 29)).alloc (.cells ks.toArray 29)).heap.size → some j ≠ Value.ownBlock (.slice V k cv) → w'.heap[j]? = ((w5.alloc (.cells ks.toArray 29)).alloc (.cells ks.toArray 29)).heap[j]? := hg'.block
        have hql := World.block_lt_of_cell? _ ⟨q, 0, none⟩ h0
        refine ⟨AA, cc, (World.cell?_of_block (a := ⟨q, 0, none⟩) (hblk q hql hq')).trans h0, hc, ⟨hkd.len, hkd.bytes, fun hp => ?_⟩, hAA, (World.frozen?_of_block (a := ⟨q, 0, none⟩) (hblk q hql hq')).trans hf, hne⟩
        obtain ⟨a, ha, hca⟩ := hkd.at_ hp
        refine ⟨a, ha, fun j u hj => ?_⟩
        have hl := (hne a ha).2
        have hj' := hca j u hj
        exact (World.cell?_of_block (hblk (a.add j).block (World.block_lt_of_cell? _ _ hj') (fun e => by have := (ho6.lt _ e.symm).1; rw [add_block] at this; omega))).trans hj'
      have hb' : Below w.heap.size w w' := hb6.grown hg' (by have := hb5.size; simp; omega) (fun j hj => by have := (ho6.lt j hj).1; omega)
      have hbw' : b ≤ w'.heap.size := by have := hg'.size; simp at this; omega
      go_wp2_with (first | (refine wpList_store_run rfl 29 _ _ rfl rfl _ rfl _ rfl _ hst ?_) | (refine wpList_load_run rfl 29 _ rfl _ rfl _ hld ?_) | (at_builtin; go_loud (refine Lib.wpList_append_run _ rfl _ _ _ _ rfl _ _ rfl rfl _ _ hr' ?_)))
      exact ⟨⟨k + 1, by omega, ho', by rw [show N - (k + 1) = r by omega]; exact hd', hbw', hb'⟩, by
        obtain ⟨V', cv', rfl, _⟩ := own_keys ho' (fun u hu => hzb u (List.mem_of_mem_take hu))
        simp [vlen]; omega⟩
    · obtain rfl : k = N := by omega
      rw [Nat.sub_self] at hd
      have hzt : zs.take (k * 32) = zs := List.take_of_length_le (by omega)
      rw [hzt] at ho
      obtain ⟨V, cv, rfl, hcv, hkv, hVn, hVb⟩ := own_keys ho hzb
      go_wp2_with fail
      refine (left_calls q b 0 _ _ hd).mono ?_
      rintro e w4 ⟨rfl, rfl⟩
      go_wp2_with fail
      refine (next_none q b _ _ hd).mono ?_
      rintro e w5 ⟨rfl, hb5⟩
      have hst : (storeVar 29 ⟨w5.heap.size, 0, none⟩ (.agg Z32)).run Try.prog (w5.alloc (.cells Z32 29)) = .ok () (w5.alloc (.cells Z32 29)) := run_storeVar_new w5 29 Z32 Z32 (by rw [size29]; rfl) rfl (by kernel_rfl)
      have hb05 : Below w.heap.size w w5 := hb.trans (hb5.mono hb.size)
      have hb6 : Below w.heap.size w ((w5.alloc (.cells Z32 29)).alloc (.cells #[] 29)) := (hb05.alloc hb05.size _).alloc (by have := hb05.size; simp; omega) _
      have hbw6 : Below w5.heap.size w5 ((w5.alloc (.cells Z32 29)).alloc (.cells #[] 29)) := ((Below.refl _ w5).alloc (Nat.le_refl _) _).alloc (by simp) _
      have hV6 := (hkv.below hb5).below hbw6
      have he6 : ((w5.alloc (.cells Z32 29)).alloc (.cells #[] 29)).ownsRow (w5.heap.size + 1) 29 32 (.slice (some ⟨w5.heap.size + 1, 0, none⟩) 0 0) 0 [] := by
        have := World.ownsRow_made (w5.alloc (.cells Z32 29)) #[] (base := w5.heap.size + 1) (e := 29) (size := 32) 0 (by simp) (Nat.zero_le _) (by simp)
        simpa using this
      obtain ⟨v7, w7, hr7, ho7, hg7⟩ := append_keys he6 (by simp) ((hx.below hb6)) hA (by omega) 22
      have hb7 : Below w.heap.size w w7 := hb6.grown hg7 hb6.size (fun j hj => by have := (he6.lt j hj).1; have := hb05.size; omega)
      have hg7' : ∀ j, j < w5.heap.size → w7.heap[j]? = ((w5.alloc (.cells Z32 29)).alloc (.cells #[] 29)).heap[j]? := fun j hj => hg7.block j (by simp; omega) (fun e => by have := (he6.lt j e.symm).1; omega)
      obtain ⟨v8, w8, hr8, ho8, hg8⟩ := append_keys ho7 (by have := hg7.size; simp at this; omega) ((hy.below hb7)) hB (by omega) 22
      have hb8 : Below w.heap.size w w8 := hb7.grown hg8 hb7.size (fun j hj => by have := (ho7.lt j hj).1; have := hb05.size; omega)
      have hbv : Below w5.heap.size w5 w8 := (hbw6.grown hg7 (by simp; omega) (fun j hj => by have := (he6.lt j hj).1; omega)).grown hg8 (by have := hg7.size; simp at this; omega) (fun j hj => by have := (ho7.lt j hj).1; omega)
      have hk8 := ((hkv.below hb5).below hbv)
      have hz8 : [] ++ xs ++ ys = zs := by rw [HZ.out]; simp
      have hn8 : 0 + n + m = k := by have := HN.out; omega
      rw [hz8, hn8] at ho8
      obtain ⟨V8, cv8, rfl, hcv8, hkv8, _, _⟩ := own_keys ho8 hzb
      go_wp2_with (first | (refine wpList_store_run rfl 29 _ _ rfl rfl _ rfl _ rfl _ hst ?_) | (at_builtin; first | (refine Lib.wpList_append_run _ rfl _ _ _ _ rfl _ _ rfl rfl _ _ hr7 ?_) | (refine Lib.wpList_append_run _ rfl _ _ _ _ rfl _ _ rfl rfl _ _ hr8 ?_)))
      refine (same_calls V V8 k cv cv8 zs w8 hk8 hkv8 (by omega)).mono ?_
      rintro e w9 ⟨rfl, ⟨q9, rfl⟩⟩
      go_wp2_with fail
      go_ret
      exact ⟨rfl, hb8.trans ⟨rfl, rfl, rfl, Nat.le_refl _, fun _ _ => rfl⟩⟩
end Go.Proofs.Ytomihbanpjedeaa
