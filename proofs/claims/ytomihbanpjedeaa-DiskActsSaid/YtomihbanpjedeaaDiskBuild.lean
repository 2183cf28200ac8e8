/- A write, built; a list of one write, built. -/
import Derived.Test.YtomihbanpjedeaaDiskPut
namespace Go.Proofs.Ytomihbanpjedeaa
open Go.RowKit
set_option linter.unusedSimpArgs false

theorem fold_off (off : Nat) : ∀ (l : List Value) (i : Nat) (z : Array Value), off + i + l.length = z.size →
    (l.zipIdx i).foldl (fun a (p : Value × Nat) => a.setIfInBounds (off + p.2) p.1) z = (z.toList.take (off + i) ++ l).toArray
  | [], i, z, h => by
    simp at h
    rw [List.zipIdx_nil, List.foldl_nil, h, List.append_nil, List.take_of_length_le (by simp)]
  | c :: l, i, z, h => by
    simp only [List.length_cons] at h
    rw [List.zipIdx_cons, List.foldl_cons, fold_off off l (i + 1) (z.setIfInBounds (off + i) c) (by simp; omega)]
    congr 1
    have hi : off + i < z.toList.length := by simp; omega
    rw [Array.toList_setIfInBounds, show off + (i + 1) = off + i + 1 by omega, List.take_succ_eq_append_getElem (by simpa using hi)]
    simp [List.take_set_of_le]
theorem fold_arr (off : Nat) {ks : List Value} {z : Array Value} (h : off + ks.length = z.size) : ks.toArray.zipIdx.foldl (fun a (p : Value × Nat) => a.setIfInBounds (off + p.2) p.1) z = (z.toList.take off ++ ks).toArray := by
  have := fold_off off ks 0 z (by omega)
  rw [← Array.foldl_toList]
  simpa using this
theorem info81 : (Try.prog.info? 81).map (fun i => (i.zero, i.size, i.bytes)) = some (some (.agg (Array.replicate 1 (.int .i64 0) ++ Array.replicate 64 (.int .u8 0))), 65, 72) := by kernel_rfl
theorem info81' : ∃ i, Try.prog.info? 81 = some i ∧ i.zero = some (.agg (Array.replicate 1 (.int .i64 0) ++ Array.replicate 64 (.int .u8 0))) ∧ i.size = 65 ∧ i.bytes = 72 := by
  obtain ⟨i, hi, h⟩ := Option.map_eq_some_iff.1 info81
  simp only [Prod.mk.injEq] at h
  exact ⟨i, hi, h.1, h.2.1, h.2.2⟩
theorem size_of {t : TypeId} {n : Nat} (h : (Try.prog.info? t).map (·.size) = some n) (W : World) : (sizeOf t).run Try.prog W = .ok n W := by
  obtain ⟨i, hi, hs⟩ := Option.map_eq_some_iff.1 h
  simp [sizeOf, typeInfo, hi, hs]
theorem fill_snd {S : Nat} {cs : List Value} {z : Array Value} (hl : cs.length = S) (hz : z.size = S) : Instr.fill (fun i => some (i * S, S)) z [(0, .agg cs.toArray)] = some cs.toArray := by
  unfold Instr.fill
  have hc : (Value.agg cs.toArray).cells = cs.toArray := rfl
  simp only [hc]
  have hf := fold_arr (0 * S) (ks := cs) (z := z) (by omega)
  rw [if_neg (by simp [hl, hz]), hf]
  simp [Instr.fill]
/-- A list of one wide value, built. -/
theorem build_list {t e : TypeId} {S : Nat} {zv : Value} {cs : List Value} (ht : Try.prog.underlying t = some (.slice e)) (hsz : ∀ W, (sizeOf e).run Try.prog W = .ok S W) (hzv : ∀ W, (zeroValue e).run Try.prog W = .ok zv W)
    (hS : 0 < S) (hS' : S ≤ 16777216) (hl : cs.length = S) (W : World) : (Instr.buildSlice t 1 #[(0, .agg cs.toArray)]).run Try.prog W = .ok (.slice (some ⟨W.heap.size, 0, none⟩) 1 1) (W.alloc (.cells cs.toArray e)) := by
  have hn : ∀ cs, (newRow e cs).run Try.prog W = .ok ⟨W.heap.size, 0, none⟩ (W.alloc (.cells cs e)) := fun cs => by simp [newRow]
  simp only [Instr.buildSlice, Sem.run_bind, run_underlying ht, Result.andThen, hsz]
  rw [if_neg (by omega), if_neg (by omega)]
  simp only [Sem.run_bind, hzv, Result.andThen, Sem.run_pure]
  rw [fill_snd hl (by simp)]
  simp only [Sem.run_bind, hn, Result.andThen, Sem.run_pure]
theorem build_writes {cs : List Value} (hl : cs.length = 65) (W : World) : (Instr.buildSlice 73 1 #[(0, .agg cs.toArray)]).run Try.prog W = .ok (.slice (some ⟨W.heap.size, 0, none⟩) 1 1) (W.alloc (.cells cs.toArray 81)) := by
  obtain ⟨i0, hi, hz0, hz1, hz2⟩ := info81'
  exact build_list Try.underlying73 (fun W => by simp [sizeOf, typeInfo, hi, hz1]) (fun W => by simp [zeroValue, typeInfo, hi, hz0]; rfl) (by decide) (by decide) hl W
theorem build_write {a : Int} {ks : List Value} (hl : ks.length = 64) (W : World) : (Instr.build 81 #[(0, .int .i64 a), (1, .agg ks.toArray)]).run Try.prog W = .ok (.agg (Value.int .i64 a :: ks).toArray) W := by
  obtain ⟨i0, hi, hz0, hz1, hz2⟩ := info81'
  have hzv : (zeroValue 81).run Try.prog W = .ok (.agg (Array.replicate 1 (.int .i64 0) ++ Array.replicate 64 (.int .u8 0))) W := by simp [zeroValue, typeInfo, hi, hz0]
  have h3 : (sizeOf 3).run Try.prog W = .ok 1 W := size_of (by kernel_rfl) W
  have h78 : (sizeOf 78).run Try.prog W = .ok 64 W := size_of size78 W
  simp only [Instr.build, Sem.run_bind, hzv, Result.andThen, run_underlying Try.underlying81]
  rw [show (Array.mapM (m := Sem) (fun (f : Field) => do pure (f.offset, ← sizeOf f.type))
      #[{ name := "at", type := 3, offset := 0, embedded := false, tag := "", pkgPath := "scrinium/disk", byteOffset := 0 }, { name := "s", type := 78, offset := 1, embedded := false, tag := "", pkgPath := "scrinium/disk", byteOffset := 8 }]).run Try.prog W = .ok #[(0, 1), (1, 64)] W by
    simp [Array.mapM_eq_mapM_toList, Sem.run_bind, h3, h78, Result.andThen]]
  have hc : (Value.agg (Array.replicate 1 (Value.int IntKind.i64 0) ++ Array.replicate 64 (Value.int IntKind.u8 0))).cells = Array.replicate 1 (Value.int IntKind.i64 0) ++ Array.replicate 64 (Value.int IntKind.u8 0) := rfl
  have hf : Instr.fill (fun x => (#[(0, 1), (1, 64)] : Array (Nat × Nat))[x]?) (Array.replicate 1 (Value.int IntKind.i64 0) ++ Array.replicate 64 (Value.int IntKind.u8 0)) [(0, Value.int IntKind.i64 a), (1, Value.agg ks.toArray)] = some (Value.int .i64 a :: ks).toArray := by
    have h1 : (Value.int IntKind.i64 a).cells = #[Value.int IntKind.i64 a] := rfl
    have h2 : (Value.agg ks.toArray).cells = ks.toArray := rfl
    obtain ⟨Z, hZ⟩ : ∃ Z, Z = Array.replicate 1 (Value.int IntKind.i64 0) ++ Array.replicate 64 (Value.int IntKind.u8 0) := ⟨_, rfl⟩
    have hzs : Z.size = 65 := by rw [hZ]; simp
    rw [← hZ]
    have p0 : (#[(0, 1), (1, 64)] : Array (Nat × Nat))[0]? = some (0, 1) := rfl
    have p1 : (#[(0, 1), (1, 64)] : Array (Nat × Nat))[1]? = some (1, 64) := rfl
    have f1 : Array.foldl (fun cs (x : Value × Nat) => cs.setIfInBounds (0 + x.snd) x.fst) Z #[Value.int IntKind.i64 a].zipIdx = Z.setIfInBounds 0 (.int .i64 a) := by simp
    simp only [Instr.fill, h1, h2, p0, p1, f1]
    have f2 := fold_arr 1 (ks := ks) (z := Z.setIfInBounds 0 (.int .i64 a)) (by simp [hl, hzs])
    rw [if_neg (by simp [hzs]), if_neg (by simp [hl, hzs]), f2]
    have h5 : (Z.setIfInBounds 0 (Value.int IntKind.i64 a)).toList.take 1 = [Value.int IntKind.i64 a] := by
      clear f2 f1 hZ
      rw [Array.toList_setIfInBounds]
      have : 0 < Z.toList.length := by simp; omega
      match hq : Z.toList with
      | [] => rw [hq] at this; simp at this
      | z :: zs => rfl
    rw [h5]
    rfl
  rw [hc]
  simp only [hf]
  rfl
end Go.Proofs.Ytomihbanpjedeaa
