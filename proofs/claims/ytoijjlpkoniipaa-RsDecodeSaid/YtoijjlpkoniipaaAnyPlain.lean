/- Numbers that are picked, each once; rows that are picked; the words for the laws RsAny and RsLess. -/
import Derived.Test.YtoijjlpkoniipaaRsBox
set_option linter.unusedVariables false
set_option linter.unusedSimpArgs false
namespace Go.Proofs.Ytoijjlpkoniipaa
open Go.RowKit Go.Proofs.YtoijjlpkoniipaaW.PrintWords Go.Proofs.YtoijjlpkoniipaaW.PrintLast Gf Lin Go.ChangeShapes Go.WideShapes
theorem info3 : (Try.prog.info? 3).map (fun i => (i.zero, i.size, i.bytes)) = some (some (.int .i64 0), 1, 8) := by kernel_rfl
def iv (zs : List Int) : List Value := zs.map fun z => Value.int .i64 z
theorem iv_length (zs : List Int) : (iv zs).length = zs.length := by simp [iv]
theorem RI.of_own {w : World} {base : Nat} {A : Option Addr} {n cap : Nat} {zs : List Int} (h : w.ownsRow base 3 1 (.slice A n cap) n (iv zs)) (hn : n ≤ 9223372036854775807) : RI w A n cap zs := by
  have hl : zs.length = n := by have := h.1; simp [iv] at this; omega
  subst hl
  refine ⟨?_, C_ints (A := A) hn (fun hpos => ?_)⟩
  · rcases h.2 with ⟨e, h0⟩ | ⟨g, cap', cur, e, _, _, h1, _⟩
    · omega
    · simp only [Value.slice.injEq] at e
      obtain ⟨_, _, rfl⟩ := e
      exact h1
  · rcases h.2 with ⟨e, h0⟩ | ⟨g, cap', cur, e, _⟩
    · omega
    · simp only [Value.slice.injEq] at e
      obtain ⟨rfl, _, _⟩ := e
      refine ⟨_, rfl, fun j hj => h.cells rfl j _ ?_⟩
      simp [iv, hj]
theorem ownsRow_form3 {w : World} {base : Nat} {v : Value} {n : Nat} {us : List Value} (h : w.ownsRow base 3 1 v n us) : ∃ A cap, v = .slice A n cap := by
  rcases h.2 with ⟨rfl, h0⟩ | ⟨g, cap, cur, rfl, _⟩
  · exact ⟨none, 0, by rw [h0]⟩
  · exact ⟨_, cap, rfl⟩
theorem append_int {w : World} {base : Nat} {v : Value} {zs : List Int} (ho : w.ownsRow base 3 1 v zs.length (iv zs)) (hb : base ≤ w.heap.size) {g : Nat} {z : Int} (hc : w.heap[g]? = some (.cells #[.int .i64 z] 3)) (hs : zs.length ≤ 1000) (ty : TypeId) :
    ∃ A' cap' w', (Builtin.append_ #[80, 80] ty #[v, .slice (some ⟨g, 0, none⟩) 1 1]).run Try.prog w = .ok (.slice A' (zs.length + 1) cap') w' ∧ w'.ownsRow base 3 1 (.slice A' (zs.length + 1) cap') (zs ++ [z]).length (iv (zs ++ [z])) ∧ w.grownBy w' v.ownBlock := by
  obtain ⟨i0, hi, hinf⟩ := Option.map_eq_some_iff.1 info3
  simp only [Prod.mk.injEq] at hinf
  obtain ⟨v', w', r1, r2, r3, _⟩ := run_append_own (P := Try.prog) w base 80 ty 3 i0 _ 1 8 Try.underlying80 hi hinf.1 hinf.2.1 hinf.2.2 rfl (by decide) v zs.length (iv zs) ho ⟨g, 0, none⟩ 1 1 [.int .i64 z] rfl (fun t u ht => by
    cases t with
    | zero =>
      obtain rfl : Value.int .i64 z = u := by simpa using ht
      rw [add_at, cell_of_row _ _ _ _ _ _ hc]; rfl
    | succ t => simp at ht) (by simp [Value.oneCell']) (by unfold maxLen; omega) (by omega) hb
  obtain ⟨A', cap', rfl⟩ := ownsRow_form3 r2
  have e : iv zs ++ [.int .i64 z] = iv (zs ++ [z]) := by simp [iv]
  rw [e] at r2
  exact ⟨A', cap', w', r1, by simpa using r2, r3⟩
theorem zero86 : Try.zeroCells86 = metN 256 [] := by kernel_rfl
theorem size86 : (Try.prog.info? 86).map (·.size) = some 256 := by kernel_rfl
/-- Numbers that are picked: the list at v, and which were met at ge. -/
structure Am (w0 w : World) (ge : Nat) (v : Value) (zs : List Int) : Prop where
  eq : ge = w0.heap.size
  own : w.ownsRow (ge + 1) 3 1 v zs.length (iv zs)
  met : w.heap[ge]? = some (.cells (metN 256 zs) 86)
  bel : Below ge w0 w
theorem Am.lt {w0 w : World} {ge : Nat} {v : Value} {zs : List Int} (h : Am w0 w ge v zs) : ge < w.heap.size := by
  rcases Nat.lt_or_ge ge w.heap.size with q | q
  · exact q
  · have := h.met; rw [Array.getElem?_eq_none q] at this; cases this
theorem Am.start (w : World) : Am w (w.alloc (.cells Try.zeroCells86 86)) w.heap.size (.slice none 0 0) [] := ⟨rfl, World.ownsRow_nil _ _ _ _, by rw [heap_alloc_new, zero86], Below.alloc1 _ _⟩
theorem Am.form {w0 w : World} {ge : Nat} {v : Value} {zs : List Int} (h : Am w0 w ge v zs) : ∃ A cap, v = .slice A zs.length cap := ownsRow_form3 h.own
theorem Am.cell {w0 w : World} {ge : Nat} {v : Value} {zs : List Int} (h : Am w0 w ge v zs) {p : Nat} (hp : p < 256) : w.cell? ⟨ge, p, none⟩ = some (.bool (decide ((p : Int) ∈ zs))) := by rw [cell_of_row _ _ _ _ _ _ h.met]; exact metN_at hp
theorem Am.frz {w0 w : World} {ge : Nat} {v : Value} {zs : List Int} (h : Am w0 w ge v zs) (p : Nat) : w.frozen? ⟨ge, p, none⟩ = false := frozen_of_row _ _ _ _ _ h.met
theorem Am.ri {w0 w : World} {ge : Nat} {A : Option Addr} {q cap : Nat} {zs : List Int} (h : Am w0 w ge (.slice A q cap) zs) (hq : zs.length = q) (hn : q ≤ 1000) : RI w A q cap zs := by
  have ho := h.own
  rw [hq] at ho
  exact RI.of_own ho (by omega)
theorem Am.step {w0 w : World} {ge : Nat} {v : Value} {zs : List Int} (h : Am w0 w ge v zs) {p : Nat} (hp : p < 256) (hs : zs.length ≤ 1000) (ty : TypeId) :
    ∃ A' cap' w', (Builtin.append_ #[80, 80] ty #[v, .slice (some ⟨w.heap.size, 0, none⟩) 1 1]).run Try.prog ((w.setCell ⟨ge, p, none⟩ (.bool true)).alloc (.cells #[.int .i64 (p : Int)] 3)) = .ok (.slice A' (zs.length + 1) cap') w' ∧ Am w0 w' ge (.slice A' (zs.length + 1) cap') (zs ++ [(p : Int)]) := by
  have hlt := h.lt
  have b1 : Below ge w0 (w.setCell ⟨ge, p, none⟩ (.bool true)) := Below.setCell h.bel (Nat.le_refl _) _
  have m1 : (w.setCell ⟨ge, p, none⟩ (.bool true)).heap[ge]? = some (.cells (metN 256 (zs ++ [(p : Int)])) 86) := by
    rw [← metN_set hp]; exact heap_setCell_same w ge p _ _ _ h.met
  have o1 : (w.setCell ⟨ge, p, none⟩ (.bool true)).ownsRow (ge + 1) 3 1 v zs.length (iv zs) := ownsRow_setCell_below h.own (by show ge < ge + 1; omega) _
  obtain ⟨w1, hw1⟩ : ∃ w1, w1 = w.setCell ⟨ge, p, none⟩ (.bool true) := ⟨_, rfl⟩
  have s1 : w1.heap.size = w.heap.size := by rw [hw1]; simp
  rw [← hw1] at b1 m1 o1 ⊢
  have bA := Below.alloc1 w1 (.cells #[.int .i64 (p : Int)] 3)
  have b2 : Below ge w0 (w1.alloc (.cells #[.int .i64 (p : Int)] 3)) := b1.alloc (by omega) _
  have m2 : (w1.alloc (.cells #[.int .i64 (p : Int)] 3)).heap[ge]? = some (.cells (metN 256 (zs ++ [(p : Int)])) 86) := (bA.block ge (by omega)).trans m1
  have o2 : (w1.alloc (.cells #[.int .i64 (p : Int)] 3)).ownsRow (ge + 1) 3 1 v zs.length (iv zs) := o1.kept (row := none) ⟨bA.os, bA.tape, bA.output, bA.size, fun j hj _ => bA.block j hj⟩ (by cases hv : v.ownBlock <;> simp)
  have n2 : (w1.alloc (.cells #[.int .i64 (p : Int)] 3)).heap[w.heap.size]? = some (.cells #[.int .i64 (p : Int)] 3) := by rw [← s1]; exact heap_alloc_new w1 _
  obtain ⟨A', cap', w', r1, r2, r3⟩ := append_int o2 (by simp; omega) n2 hs ty
  have hrow : ∀ k, v.ownBlock = some k → ge + 1 ≤ k := fun k hk => (o2.lt k hk).1
  refine ⟨A', cap', w', r1, h.eq, r2, ?_, b2.grown r3 (by simp; omega) (fun k hk => by have := hrow k hk; omega)⟩
  exact (r3.block ge (by simp; omega) (fun e => by have := hrow ge e.symm; omega)).trans m2
theorem many_ints : ∀ (p : Nat) (l : List Int), (∀ q : Nat, q < p → (q : Int) ∈ l) → p ≤ l.length
  | 0, _, _ => Nat.zero_le _
  | p + 1, l, h => by
    have hm := h p (by omega)
    have := many_ints p (l.erase (p : Int)) (fun q hq => (List.mem_erase_of_ne (by omega)).2 (h q (by omega)))
    rw [List.length_erase_of_mem hm] at this
    have hpos : 0 < l.length := List.length_pos_of_mem hm
    omega
theorem AtOk.len {n : Nat} {zs : List Int} (h : AtOk n zs) : zs.length ≤ n := by
  have hnn : (zs.map Int.toNat).Nodup := by
    rw [List.nodup_iff_pairwise_ne, List.pairwise_map]
    refine List.Pairwise.imp_of_mem (fun {a b} ha hb hne e => hne ?_) (List.nodup_iff_pairwise_ne.1 h.2)
    have h2 := h.1 a ha
    have h3 := h.1 b hb
    omega
  have := nodup_le hnn (b := List.range n) (fun x hx => by
    rw [List.mem_map] at hx
    obtain ⟨z, hz, rfl⟩ := hx
    have := h.1 z hz
    rw [List.mem_range]; omega)
  simpa using this
theorem Am.bel' {w0 w : World} {ge : Nat} {v : Value} {zs : List Int} (h : Am w0 w ge v zs) : Below w0.heap.size w0 w := h.eq ▸ h.bel
theorem AtOk.push {n : Nat} {zs : List Int} (h : AtOk n zs) {p : Nat} (hp : p < n) (hm : (p : Int) ∉ zs) : AtOk n (zs ++ [(p : Int)]) := by
  refine ⟨fun z hz => ?_, ?_⟩
  · rcases List.mem_append.1 hz with hz | hz
    · exact h.1 z hz
    · rw [List.mem_singleton.1 hz]; omega
  · rw [List.nodup_append]
    exact ⟨h.2, by simp, fun a ha b hb e => hm (by rw [List.mem_singleton.1 hb] at e; rw [← e]; exact ha)⟩
theorem gz_append_left {a b : List Int} {i : Nat} (h : i < a.length) : gz (a ++ b) i = gz a i := by rw [gz_at (by simp; omega), gz_at h, List.getElem_append_left h]
theorem Gw.step0 {w0 w w1 : World} {v : Value} {i : Nat} {m : List (List UInt8)} (h : Gw w0 w v i m) (hb : Below w.heap.size w w1) {B : Option Addr} {q cB : Nat} {r : List UInt8} (hr : RS w1 B q cB r) (hf : 0 < q → ∀ a, B = some a → v.ownBlock ≠ some a.block) (hi : i ≤ 1000) (ty : TypeId) :
    ∃ A' cap' w', (Builtin.append_ #[36, 36] ty #[v, .slice (some ⟨w1.heap.size, 0, none⟩) 1 1]).run Try.prog (w1.alloc (.cells #[.slice B q cB] 35)) = .ok (.slice A' (i + 1) cap') w' ∧ Gw w0 w' (.slice A' (i + 1) cap') (i + 1) (m ++ [r]) := by
  obtain ⟨us, h1, h2⟩ := h.own
  have bA : Below w1.heap.size w1 (w1.alloc (.cells #[.slice B q cB] 35)) := (Below.refl _ _).alloc (Nat.le_refl _) _
  have n2 : (w1.alloc (.cells #[.slice B q cB] 35)).heap[w1.heap.size]? = some (.cells #[.slice B q cB] 35) := heap_alloc_new w1 _
  have b2 := bthen hb bA
  have o2 : (w1.alloc (.cells #[.slice B q cB] 35)).ownsRow w0.heap.size 35 1 v i us := h1.kept (row := none) ⟨b2.os, b2.tape, b2.output, b2.size, fun j hj _ => b2.block j hj⟩ (by cases hv : v.ownBlock <;> simp)
  have v2 := (h2.below hb).snoc hr hf
  have hbase : w0.heap.size ≤ w.heap.size := h.bel.size
  obtain ⟨v', w', r1, r2, r3, r4⟩ := append_own1 o2 (by have := b2.size; omega) (a := ⟨w1.heap.size, 0, none⟩) (u := .slice B q cB) rfl (by rw [cell_of_row _ _ _ _ _ _ n2]; rfl) (by omega) ty
  obtain ⟨A', cap', rfl⟩ := ownsRow_form r2
  have b3 : Below w0.heap.size w0 w' := (h.bel.trans (b2.mono hbase)).grown r3 (by have := b2.size; omega) (fun k hk => (o2.lt k hk).1)
  exact ⟨A', cap', w', r1, ⟨_, r2, (v2.below bA).grown r3 r4⟩, b3⟩
theorem Gw.older0 {w0 w : World} {v : Value} {i : Nat} {m : List (List UInt8)} (h : Gw w0 w v i m) {B : Option Addr} {q cB : Nat} {r : List UInt8} (hr : RS w0 B q cB r) : 0 < q → ∀ a, B = some a → v.ownBlock ≠ some a.block := fun hq => h.older hr hq
/-- The first i pieces that are picked. -/
def pickP (k n : Nat) (m : List (List UInt8)) (zs : List Int) (i : Nat) : List (List UInt8) := (List.range i).map fun t => gr (encB k n m) (gz zs t).toNat
theorem pickP_succ (k n : Nat) (m : List (List UInt8)) (zs : List Int) (i : Nat) : pickP k n m zs (i + 1) = pickP k n m zs i ++ [gr (encB k n m) (gz zs i).toNat] := by unfold pickP; rw [List.range_succ, List.map_append]; rfl
theorem pickP_length (k n : Nat) (m : List (List UInt8)) (zs : List Int) (i : Nat) : (pickP k n m zs i).length = i := by simp [pickP]
theorem pickP_row {k n : Nat} {m : List (List UInt8)} {zs : List Int} {i t : Nat} (h : t < i) : gr (pickP k n m zs i) t = gr (encB k n m) (gz zs t).toNat := by
  rw [gr_at (by rw [pickP_length]; exact h)]; simp [pickP]
theorem pickP_mem {k n : Nat} {m : List (List UInt8)} {zs : List Int} (hz : AtOk n zs) {i : Nat} (hi : i ≤ zs.length) {r : List UInt8} (h : r ∈ pickP k n m zs i) : r.length = (m.headD []).length := by
  unfold pickP at h
  rw [List.mem_map] at h
  obtain ⟨t, ht, rfl⟩ := h
  rw [List.mem_range] at ht
  have := hz.range (i := t) (by omega)
  rw [encB_row _ (by omega)]; simp [sumB]
/-- What comes of the pieces that are picked. -/
theorem any_dec {k n : Nat} {m : List (List UInt8)} {zs : List Int} (hk1 : 1 ≤ k) (hm : m.length = k) (ha : Alike m) (hz : AtOk n zs) (hl : k ≤ zs.length) {x : List (List UInt8)} {ev : Int} (h : DecP k n zs (pickP k n m zs zs.length) x ev) : ev = 0 ∧ x = m := by
  have hw : docWrong k n zs (pickP k n m zs zs.length) = 0 := docWrong_0 ⟨(pickP_length _ _ _ _ _).symm, alike_len_of fun r hr => pickP_mem hz (Nat.le_refl _) hr⟩ hz (by omega)
  rcases h with ⟨h1, _⟩ | ⟨_, h2, S, h3, _, rfl⟩
  · exact absurd hw h1
  · refine ⟨h2, dec_enc (zs := zs) hk1 hm ha (by rw [pickP_length]; exact hl) (fun a hak => ?_) h3⟩
    have := hz.range (i := a) (by omega)
    rw [pickP_row (by omega), encB_row _ (by omega)]
theorem any_again {k n : Nat} {m : List (List UInt8)} {zs : List Int} (hk1 : 1 ≤ k) (hm : m.length = k) (ha : Alike m) (hz : AtOk n zs) (hl : k ≤ zs.length) {i : Nat} (hi : i < n) {r : List UInt8} {ev : Int} (h : AgP k n zs (pickP k n m zs zs.length) (i : Int) r ev) : ev = 0 ∧ r = gr (encB k n m) i := by
  have hw : docWrong k n zs (pickP k n m zs zs.length) = 0 := docWrong_0 ⟨(pickP_length _ _ _ _ _).symm, alike_len_of fun r hr => pickP_mem hz (Nat.le_refl _) hr⟩ hz (by omega)
  rcases h with ⟨h1, _⟩ | ⟨_, h1, _⟩ | ⟨_, _, h2, S, h3, _, rfl⟩
  · omega
  · exact absurd hw h1
  · refine ⟨h2, ?_⟩
    rw [dec_enc (zs := zs) hk1 hm ha (by rw [pickP_length]; exact hl) (fun a hak => by
      have := hz.range (i := a) (by omega)
      rw [pickP_row (by omega), encB_row _ (by omega)]) h3, encB_row _ hi, Int.toNat_natCast]
theorem wpList_store_run' {P : Program} {w : World} {ops : Array Oper} {rest : List Oper} {o : Oper} {a : Act} {Q : Exit → Act → World → Prop} (hgd : o.guard = none) (ty : TypeId) (x y : Operand) (ho : o.op = .store ty x y) (hd : o.dst = none)
    (ad : Addr) (hx : a.eval x = .pointer (some ad)) (v : Value) (hy : a.eval y = v) (w' : World) (hr : (storeVar ty ad v).run P w = .ok () w') (h : wpList P ops Q rest a w') : wpList P ops Q (o :: rest) a w := by
  refine wpList_plain hgd fun _ hK => ?_
  unfold Oper.wp execOp
  simp only [ho, hx, hy, Instr.storeAt, Instr.sureAddr, Sem.run_bind, Sem.run_pure, Result.andThen_ok, hr]
  have hp : ∀ v, a.put o.dst v = a := fun v => by rw [hd]; rfl
  exact hK _ _ (by rw [hp]; exact h)
theorem wpList_build_run {P : Program} {w : World} {ops : Array Oper} {rest : List Oper} {o : Oper} {a : Act} {Q : Exit → Act → World → Prop} (hgd : o.guard = none) (ty : TypeId) (ho : o.op = .build ty #[])
    (v : Value) (hr : (Instr.build ty #[]).run P w = .ok v w) (h : wpList P ops Q rest (a.put o.dst v) w) : wpList P ops Q (o :: rest) a w := by
  refine wpList_plain hgd fun _ hK => ?_
  unfold Oper.wp execOp
  have e : ((#[] : Array (Nat × Operand)).map fun (i, x) => (i, a.eval x)) = #[] := by simp
  simp only [ho, e, Sem.run_bind, Sem.run_pure, Result.andThen_ok, hr]
  exact hK _ _ h
theorem zero_of86 : (Try.prog.info? 86).map (·.zero) = some (some (.agg Try.zeroCells86)) := by kernel_rfl
theorem size4 : (Try.prog.info? 4).map (·.size) = some 1 := by kernel_rfl
theorem build86 (w : World) : (Instr.build 86 #[]).run Try.prog w = .ok (.agg Try.zeroCells86) w := by
  obtain ⟨i, hi, hz⟩ := Option.map_eq_some_iff.1 zero_of86
  obtain ⟨i4, hi4, hs4⟩ := Option.map_eq_some_iff.1 size4
  obtain ⟨Z, hZ⟩ : ∃ Z, Z = Try.zeroCells86 := ⟨_, rfl⟩
  rw [← hZ] at hz ⊢
  clear hZ
  have hzv : (zeroValue 86).run Try.prog w = .ok (.agg Z) w := by simp [zeroValue, typeInfo, hi, hz]
  have h4 : (sizeOf 4).run Try.prog w = .ok 1 w := by simp [sizeOf, typeInfo, hi4, hs4]
  simp only [Instr.build, Sem.run_bind, hzv, Result.andThen, run_underlying Try.underlying86, h4]
  have hf : Instr.fill (fun i => some (i * 1, 1)) (Value.agg Z).cells [] = some Z := by
    unfold Instr.fill
    rfl
  rw [hf]
  simp
theorem store86 (w : World) : (storeVar 86 ⟨w.heap.size, 0, none⟩ (.agg Try.zeroCells86)).run Try.prog (w.alloc (.cells Try.zeroCells86 86)) = .ok () (w.alloc (.cells Try.zeroCells86 86)) :=
  run_storeVar_new w 86 Try.zeroCells86 Try.zeroCells86 (by rw [size86]; kernel_rfl) rfl (by kernel_rfl)
end Go.Proofs.Ytoijjlpkoniipaa
