/- Matrices: one row written over; copied. -/
import Derived.Test.YtoijjlpkoniipaaMatFns
namespace Go.Proofs.Ytoijjlpkoniipaa
open Go.RowKit Go.Proofs.YtoijjlpkoniipaaW.PrintWords Go.Proofs.YtoijjlpkoniipaaW.PrintLast Gf Lin
set_option linter.unusedSimpArgs false
/-- Only blocks of F, and new ones, are other ones. -/
structure Chg (F : Nat → Prop) (w w' : World) : Prop where
  os : w'.os = w.os
  tape : w'.tape = w.tape
  output : w'.output = w.output
  size : w.heap.size ≤ w'.heap.size
  block : ∀ k, k < w.heap.size → ¬ F k → w'.heap[k]? = w.heap[k]?
theorem Chg.refl (F : Nat → Prop) (w : World) : Chg F w w := ⟨rfl, rfl, rfl, Nat.le_refl _, fun _ _ _ => rfl⟩
theorem Chg.of_below {F : Nat → Prop} {w w' : World} (h : Below w.heap.size w w') : Chg F w w' := ⟨h.os, h.tape, h.output, h.size, fun k hk _ => h.block k hk⟩
theorem Chg.set {F : Nat → Prop} {w : World} {a : Addr} {u : Value} (h : F a.block) : Chg F w (w.setCell a u) :=
  ⟨rfl, rfl, rfl, by simp, fun k _ hk => Below.heap_setCell w _ u k (fun e => hk (by rw [e]; exact h))⟩
theorem Chg.trans {F F' : Nat → Prop} {w w1 w2 : World} (h : Chg F w w1) (k : Chg F' w1 w2) (hF : ∀ i, F' i → F i ∨ w.heap.size ≤ i) : Chg F w w2 :=
  ⟨k.os.trans h.os, k.tape.trans h.tape, k.output.trans h.output, Nat.le_trans h.size k.size, fun i hi hf => (k.block i (Nat.lt_of_lt_of_le hi h.size) (fun e => (hF i e).elim hf (fun q => by omega))).trans (h.block i hi hf)⟩
theorem Chg.below {F : Nat → Prop} {B : Nat} {w0 w w' : World} (h : Chg F w w') (hb : Below B w0 w) (hB : B ≤ w.heap.size) (hF : ∀ i, F i → B ≤ i) : Below B w0 w' :=
  hb.trans ⟨h.os, h.tape, h.output, h.size, fun i hi => h.block i (by omega) (fun e => by have := hF i e; omega)⟩
theorem setCells_chg {g : Nat} : ∀ (vs : List Value) (o : Nat) (w : World), Chg (fun i => i = g) w (w.setCells g o vs) ∧ (w.setCells g o vs).heap.size = w.heap.size
  | [], o, w => ⟨Chg.refl _ _, rfl⟩
  | v :: vs, o, w => by
    obtain ⟨h1, h2⟩ := setCells_chg (g := g) vs (o + 1) (w.setCell ⟨g, o, none⟩ v)
    exact ⟨(Chg.set (F := fun i => i = g) rfl).trans h1 (fun i hi => .inl hi), h2.trans (by simp)⟩
theorem exec_copy {P : Program} {w w' : World} {ρ : Operand → Value} {o : Oper} {t tn : TypeId} {x y : Operand} {vx vy v : Value} (ho : o.op = .call { callee := .builtin .copy, args := #[x, y], argTypes := #[t, tn] }) (hx : ρ x = vx) (hy : ρ y = vy) (hr : (Builtin.copy_ #[t, tn] o.type #[vx, vy]).run P w = .ok v w') : (execOp ρ o).run P w = .ok (.value v) w' := by
  unfold execOp
  simp only [ho, resolve, invoke, builtin, Sem.run_bind, Sem.run_pure, Result.andThen_ok, List.map_toArray, List.map_cons, List.map_nil, hx, hy, hr]
/-- A row written over by bytes. -/
theorem Mat.copyRow {w : World} {gm ga n c : Nat} {p : Nat → Nat} {M : Lin.M} (h : Mat w gm ga n c p M) (hp : Perm n p) (hne : gm ≠ ga) {i : Nat} (hi : i < n) {B : Option Addr} {cB : Nat} {ys : List UInt8} (hy : KB.C w B c (bs ys)) (hc1 : 1 ≤ c) (ty : TypeId) :
    ∃ w', (Builtin.copy_ #[35, 35] ty #[.slice (some ⟨ga, p i * c, none⟩) c c, .slice B c cB]).run Try.prog w = .ok (goInt c) w' ∧ Mat w' gm ga n c p (fun a b => if a = i then gb ys b else M a b) ∧ Chg (fun k => k = ga) w w' ∧ w'.heap.size = w.heap.size := by
  have hyl := C_len hy
  obtain ⟨ad, rfl, _⟩ := C_byteD hy (k := 0) (by omega)
  have hcs : ∀ j (v : Value), (ys.map fun x : UInt8 => Value.int .u8 (x.toNat : Int))[j]? = some v → w.cell? (ad.add j) = some v := fun j v hj => by
    rw [List.getElem?_map] at hj
    obtain ⟨x, hx, rfl⟩ := Option.map_eq_some_iff.1 hj
    have hjl := (List.getElem?_eq_some_iff.1 hx).1
    obtain ⟨ad', e, hc⟩ := C_byteD hy (k := j) (by omega)
    cases e
    rw [hc, gb_at hjl, (List.getElem?_eq_some_iff.1 hx).2]
  have hl : (ys.map fun x : UInt8 => Value.int .u8 (x.toNat : Int)).length = c := by simp [hyl]
  have hrun := run_copy_cells (P := Try.prog) w 35 35 ty 5 ga (p i * c) c c ad c cB (ys.map fun x : UInt8 => Value.int .u8 (x.toNat : Int)) Try.underlying35 (by kernel_rfl) (by rw [hl]; exact (Nat.min_self c).symm) hcs
    (fun j hj => by rw [h.cells i hi j (by omega)]; rfl) (fun j _ => h.fa _) (by simp [Value.oneCell'])
  rw [hl] at hrun
  obtain ⟨k1, k2⟩ := setCells_chg (g := ga) (ys.map fun x : UInt8 => Value.int .u8 (x.toNat : Int)) (p i * c) w
  refine ⟨_, hrun, ⟨fun a ha => ?_, fun a ha b hb => ?_, fun j => ?_, fun j => ?_⟩, k1, k2⟩
  · rw [World.cell?_setCells_out _ _ _ _ _ (fun e => absurd e hne)]; exact h.rows a ha
  · by_cases hai : a = i
    · subst hai
      rw [if_pos rfl, World.cell?_setCells_in _ _ _ _ (fun j hj => by rw [h.cells a hi j (by omega)]; rfl) b (by omega)]
      simp [gb_at (show b < ys.length by omega)]
    · rw [if_neg hai, World.cell?_setCells_out _ _ _ _ _ (fun _ _ => ?_)]
      · exact h.cells a ha b hb
      · show p a * c + b < p i * c ∨ p i * c + (ys.map _).length ≤ p a * c + b
        rw [hl]
        have hpne : p a ≠ p i := fun e => hai (hp.2 a ha i hi e)
        rcases Nat.lt_or_ge (p a) (p i) with hlt | hge
        · left
          have : (p a + 1) * c ≤ p i * c := Nat.mul_le_mul_right _ (by omega)
          have h4 : (p a + 1) * c = p a * c + c := Nat.succ_mul _ c
          omega
        · right
          have : (p i + 1) * c ≤ p a * c := Nat.mul_le_mul_right _ (by omega)
          have h4 : (p i + 1) * c = p i * c + c := Nat.succ_mul _ c
          omega
  · rw [World.frozen?_setCells]; exact h.fm j
  · rw [World.frozen?_setCells]; exact h.fa j
theorem Rgt.fn {m : List (List UInt8)} (h : Rgt m) : rowsOf m.length (gr m 0).length (Ytoijjlpkoniipaa.fn m) = m := rowsOf_fn fun r hr => by
  obtain ⟨i, hi, rfl⟩ := List.getElem_of_mem hr
  rw [← gr_at hi]; exact h.all i hi
set_option maxHeartbeats 2000000 in
set_option maxRecDepth 100000 in
theorem copied_calls (A : Option Addr) (m : List (List UInt8)) (cap : Nat) (w : World) (hr : KBB.C w A m.length (bss m)) (hm : Rgt m) :
    Calls Try.prog 70 #[.slice A m.length cap] w fun e w' => e = .returned (.slice (some ⟨w.heap.size + 1, 0, none⟩) m.length m.length) ∧ Mat w' (w.heap.size + 1) w.heap.size m.length (gr m 0).length id (fn m) ∧ Below w.heap.size w w' ∧ w.heap.size + 2 ≤ w'.heap.size := by
  obtain ⟨ad, B0, c0, rfl, hcell, hcc, _⟩ := C_rowD hr (k := 0) (by have := hm.n1; omega)
  have add0 : ad.add 0 = ad := by simp [Addr.add]
  rw [add0] at hcell
  have hbl := blank_calls m.length (gr m 0).length hm.n2 hm.c1 hm.c2 w
  obtain ⟨n, hn⟩ : ∃ n, n = m.length := ⟨_, rfl⟩
  obtain ⟨c, hc⟩ : ∃ c, c = (gr m 0).length := ⟨_, rfl⟩
  have n2 : n ≤ 255 := by have := hm.n2; omega
  have n1 : 1 ≤ n := by have := hm.n1; omega
  have c1 : 1 ≤ c := by have := hm.c1; omega
  have Hn := Lib.hid hn
  have Hc := Lib.hid hc
  have HR := Lib.hid hr
  have HM := Lib.hid hm
  rw [← hn, ← hc] at hbl
  rw [← hc] at hcell
  rw [← hn, ← hc]
  have i0 : (0 : Int) < (n : Int) := by omega
  clear hn hc hr hm hcc add0
  go_enter Try.func70, Try.ntmps70
  go_wp2_with fail
  refine hbl.mono ?_
  clear hbl
  rintro e w1 ⟨rfl, hmat, hb, hs⟩
  have hm0 : Mat w1 (w.heap.size + 1) w.heap.size n c id (fun a b => if a < 0 then fn m a b else 0) := hmat.congr (fun i _ j _ => by rw [if_neg (by omega)])
  obtain ⟨gm, hgm⟩ : ∃ gm, gm = w.heap.size + 1 := ⟨_, rfl⟩
  obtain ⟨ga, hga⟩ : ∃ ga, ga = w.heap.size := ⟨_, rfl⟩
  rw [← hgm, ← hga] at hm0
  rw [← hgm]
  have hne : gm ≠ ga := by omega
  have HGM := Lib.hid hgm
  have HGA := Lib.hid hga
  have HM0 := Lib.hid hm0
  have HB := Lib.hid hb
  have HS := Lib.hid hs
  clear hmat hm0 hb hs hgm hga
  go_wp2_with fail
  go_loopw [14] (fun i wr => ∃ k : Nat, k ≤ n ∧ i = .int .i64 k ∧ Mat wr gm ga n c id (fun a b => if a < k then fn m a b else 0) ∧ Below w.heap.size w wr ∧ w.heap.size + 2 ≤ wr.heap.size) (fun i _ => n - (intOf i).toNat)
  case atStart => exact ⟨0, by omega, rfl, HM0.out, HB.out, HS.out⟩
  case round =>
    obtain ⟨k, hk, rfl, hmt, hb, hs⟩ := hrel
    by_cases hlt : k < n
    · obtain ⟨ad', B, cB, e, hcl, hcc, hrow⟩ := C_rowD (Kd.C_below HR.out hb) (k := k) (by have := Hn.out; omega)
      cases e
      have hlen := HM.out.all k (by have := Hn.out; omega)
      rw [hlen, ← Hc.out] at hcl hrow
      have hmd : Mat wr.drew gm ga n c id (fun a b => if a < k then fn m a b else 0) := ⟨hmt.rows, hmt.cells, hmt.fm, hmt.fa⟩
      have hrd : KB.C wr.drew B c (bs (gr m k)) := Kd.C_below hrow ⟨rfl, rfl, rfl, Nat.le_refl _, fun _ _ => rfl⟩
      obtain ⟨w5, hcp, hm5, hc5, hs5⟩ := hmd.copyRow (perm_id n) hne hlt (cB := cB) hrd c1 3
      have hm6 : Mat w5 gm ga n c id (fun a b => if a < k + 1 then fn m a b else 0) := hm5.congr (fun i hi j hj => by
        by_cases hik : i = k
        · subst hik; rw [if_pos (by omega), if_pos rfl]; rfl
        · rw [if_neg hik]
          by_cases h : i < k
          · rw [if_pos h, if_pos (by omega)]
          · rw [if_neg h, if_neg (by omega)])
      have hb6 : Below w.heap.size w w5 := hc5.below (B := w.heap.size) ⟨hb.os, hb.tape, hb.output, hb.size, hb.block⟩ hb.size (fun i e => by have := HGA.out; omega)
      have hs6 : w.heap.size + 2 ≤ w5.heap.size := by rw [hs5]; exact hs
      obtain ⟨q, hq⟩ : ∃ q, q = k * c := ⟨_, rfl⟩
      have ha : wr.drew.cell? ⟨gm, k, none⟩ = some (.slice (some ⟨ga, q, none⟩) c c) := by rw [hq]; exact hmt.rows k hlt
      have hb' : wr.drew.cell? (ad.add k) = some (.slice B c cB) := hcl
      rw [show id k * c = q from hq.symm] at hcp
      have HM6 := Lib.hid hm6
      have HB6 := Lib.hid hb6
      have HS6 := Lib.hid hs6
      have i1 : (0 : Int) ≤ (k : Int) := by omega
      have i2 : (k : Int) < (n : Int) := by omega
      clear hmt hmd hrd hrow hcc hlen hm5 hc5 hs5 hm6 hb6 hs6 hq hb hs hcl
      go_wp2
      refine start_ (n := 9) (S := fun w' => w'.cell? ⟨gm, k, none⟩ = some (.slice (some ⟨ga, q, none⟩) c c) ∧ w'.cell? (ad.add k) = some (.slice B c cB)) (ds := [8]) #[false, false, false, false, false, false, false, false, false] (by kernel_rfl) rfl rfl ⟨ha, hb'⟩ (fun hHeld => ?_)
      refine pure_ (i := 0) (N := some 17) (v := ?_) (a' := ?_) #[true, false, false, false, false, false, false, false, false] rfl rfl (by kernel_rfl) (fun _ _ _ h => h) (Or.inl ⟨by rfl, ?_⟩) ?_ ?_
      rotate_left
      · intro w'
        go_simp
        with_reducible rfl
      rotate_left
      · simp only [Act.put, List.setIfInBounds_toArray, List.set_cons_zero, List.set_cons_succ, i64_w, i32_w]
        rfl
      refine pure_ (i := 1) (N := some 18) (v := ?_) (a' := ?_) #[true, true, false, false, false, false, false, false, false] rfl rfl (by kernel_rfl) (fun _ _ _ h => h) (Or.inl ⟨by rfl, ?_⟩) ?_ ?_
      rotate_left
      · intro w'
        go_simp
        with_reducible rfl
      rotate_left
      · simp only [Act.put, List.setIfInBounds_toArray, List.set_cons_zero, List.set_cons_succ, i64_w, i32_w]
        rfl
      refine pure_ (i := 2) (N := some 19) (v := ?_) (a' := ?_) #[true, true, true, false, false, false, false, false, false] rfl rfl (by kernel_rfl) (fun _ _ _ h => h) (Or.inl ⟨by rfl, ?_⟩) ?_ ?_
      rotate_left
      · intro w'
        go_simp
        with_reducible rfl
      rotate_left
      · simp only [Act.put, List.setIfInBounds_toArray, List.set_cons_zero, List.set_cons_succ, i64_w, i32_w]
        rfl
      refine pure_ (i := 4) (N := some 21) (v := ?_) (a' := ?_) #[true, true, true, false, true, false, false, false, false] rfl rfl (by kernel_rfl) (fun _ _ _ h => h) (Or.inl ⟨by rfl, ?_⟩) ?_ ?_
      rotate_left
      · intro w'
        go_simp
        with_reducible rfl
      rotate_left
      · simp only [Act.put, List.setIfInBounds_toArray, List.set_cons_zero, List.set_cons_succ, i64_w, i32_w]
        rfl
      refine pure_ (i := 5) (N := some 22) (v := ?_) (a' := ?_) #[true, true, true, false, true, true, false, false, false] rfl rfl (by kernel_rfl) (fun _ _ _ h => h) (Or.inl ⟨by rfl, ?_⟩) ?_ ?_
      rotate_left
      · intro w'
        go_simp
        with_reducible rfl
      rotate_left
      · simp only [Act.put, List.setIfInBounds_toArray, List.set_cons_zero, List.set_cons_succ, i64_w, i32_w]
        rfl
      refine pure_ (i := 6) (N := some 23) (v := ?_) (a' := ?_) #[true, true, true, false, true, true, true, false, false] rfl rfl (by kernel_rfl) (fun _ _ _ h => h) (Or.inl ⟨by rfl, ?_⟩) ?_ ?_
      rotate_left
      · intro w'
        go_simp
        with_reducible rfl
      rotate_left
      · simp only [Act.put, List.setIfInBounds_toArray, List.set_cons_zero, List.set_cons_succ, i64_w, i32_w]
        rfl
      refine take_ (i := 3) (N := some 20) (v := ?_) (a' := ?_) #[true, true, true, true, true, true, true, false, false] rfl rfl (by kernel_rfl) (fun _ _ _ h => h) (Or.inl ⟨by rfl, ?_⟩) hHeld ?_ ?_
      rotate_left
      · rintro w' ⟨s0, s1⟩
        go_simp
        with_reducible rfl
      rotate_left
      · simp only [Act.put, List.setIfInBounds_toArray, List.set_cons_zero, List.set_cons_succ, i64_w, i32_w]
        rfl
      refine take_ (i := 7) (N := some 24) (v := ?_) (a' := ?_) #[true, true, true, true, true, true, true, true, false] rfl rfl (by kernel_rfl) (fun _ _ _ h => h) (Or.inl ⟨by rfl, ?_⟩) hHeld ?_ ?_
      rotate_left
      · rintro w' ⟨s0, s1⟩
        go_simp
        with_reducible rfl
      rotate_left
      · simp only [Act.put, List.setIfInBounds_toArray, List.set_cons_zero, List.set_cons_succ, i64_w, i32_w]
        rfl
      refine last_ (i := 8) (N := some 25) #[true, true, true, true, true, true, true, true, true] rfl rfl (by kernel_rfl) (by decide) (fun K hK => ?_)
      refine value_ (w1 := ?_) (v := ?_) (by rfl) rfl ?_ ?_
      rotate_left 2
      · rw [exec_copy rfl (by rfl) (by rfl) hcp]
      refine hK.out _ _ ?_
      clear hK K
      refine norm_ (a' := ?_) ?_ ?_
      rotate_left
      · show Act.put _ (some 25) _ = _
        simp only [Act.put, List.setIfInBounds_toArray, List.set_cons_zero, List.set_cons_succ, i64_w, i32_w]
        rfl
      refine done_ (by kernel_rfl) ?_
      go_wp2
      exact ⟨⟨k + 1, by omega, by go_num, HM6.out, HB6.out, HS6.out⟩, by simp [intOf]; omega⟩
    · obtain rfl : k = n := by omega
      have hfin : Mat wr gm ga k c id (fn m) := hmt.congr (fun i hi j hj => by rw [if_pos hi])
      rw [HGM.out, HGA.out] at hfin
      have HF := Lib.hid hfin
      have HB := Lib.hid hb
      have HS := Lib.hid hs
      have HGM2 := HGM.out
      subst HGM2
      clear hmt hfin hb hs
      go_wp2_with fail
      go_ret
      exact ⟨rfl, HF.out, HB.out, HS.out⟩
end Go.Proofs.Ytoijjlpkoniipaa
