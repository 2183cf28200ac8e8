/- The disk: Crash, walked. -/
import Derived.Test.YtomihbanpjedeaaDiskCrash
namespace Go.Proofs.Ytomihbanpjedeaa
open Go.RowKit Go.Proofs.YtomihbanpjedeaaW.PrintLast
set_option linter.unusedSimpArgs false

theorem exec_copy {P : Program} {w w' : World} {ρ : Operand → Value} {o : Oper} {t tn : TypeId} {x y : Operand} {vx vy v : Value} (ho : o.op = .call { callee := .builtin .copy, args := #[x, y], argTypes := #[t, tn] }) (hx : ρ x = vx) (hy : ρ y = vy) (hr : (Builtin.copy_ #[t, tn] o.type #[vx, vy]).run P w = .ok v w') : (execOp ρ o).run P w = .ok (.value v) w' := by
  unfold execOp
  simp only [ho, resolve, invoke, builtin, Sem.run_bind, Sem.run_pure, Result.andThen_ok, List.map_toArray, List.map_cons, List.map_nil, hx, hy, hr]
theorem slice_sec (g o L : Nat) (hL : L ≤ 64) (W : World) : (Instr.sliceAt 78 (.pointer (some ⟨g, o, none⟩)) none (some (.int .i64 (L : Int))) none).run Try.prog W = .ok (.slice (some ⟨g, o, none⟩) L 64) W := by
  have hal : Try.prog.arrayLen 78 = 64 := by kernel_rfl
  have hel : Try.prog.elem 78 = 5 := by kernel_rfl
  have := run_sliceAt_array_h (P := Try.prog) W 78 ⟨g, o, none⟩ (by rw [hal, hel]; exact Try.underlying78) .i64 (L : Int) (by omega) (by rw [hal]; omega)
  rw [this, hal, hel, size_of (t := 5) (n := 1) (by kernel_rfl) W]
  simp only [Result.andThen, slicedAt, Int.toNat_natCast, Nat.sub_zero, Nat.zero_mul]
  congr 2
def Z65 : Array Value := #[.int .i64 0, .int .u8 0, .int .u8 0, .int .u8 0, .int .u8 0, .int .u8 0, .int .u8 0, .int .u8 0, .int .u8 0, .int .u8 0, .int .u8 0, .int .u8 0, .int .u8 0, .int .u8 0, .int .u8 0, .int .u8 0, .int .u8 0, .int .u8 0, .int .u8 0, .int .u8 0, .int .u8 0, .int .u8 0, .int .u8 0, .int .u8 0, .int .u8 0, .int .u8 0, .int .u8 0, .int .u8 0, .int .u8 0, .int .u8 0, .int .u8 0, .int .u8 0, .int .u8 0, .int .u8 0, .int .u8 0, .int .u8 0, .int .u8 0, .int .u8 0, .int .u8 0, .int .u8 0, .int .u8 0, .int .u8 0, .int .u8 0, .int .u8 0, .int .u8 0, .int .u8 0, .int .u8 0, .int .u8 0, .int .u8 0, .int .u8 0, .int .u8 0, .int .u8 0, .int .u8 0, .int .u8 0, .int .u8 0, .int .u8 0, .int .u8 0, .int .u8 0, .int .u8 0, .int .u8 0, .int .u8 0, .int .u8 0, .int .u8 0, .int .u8 0, .int .u8 0]
/-- Where the walk of Crash stands behind i writes. -/
structure Mid (w : World) (F : Nat → Prop) (d n : Nat) (s : St) (p : Pl) (gs gn cs cn : Nat) (v : Value) (i : Nat) (wr : World) : Prop where
  hd : wr.heap[d]? = some (.cells #[.slice (some ⟨gs, 0, none⟩) n cs, .slice (some ⟨gn, 0, none⟩) n cn, v, .int .i64 s.fu, .bool s.dn] 75)
  o1 : wr.ownsRow 0 78 64 (.slice (some ⟨gs, 0, none⟩) n cs) n (crashTo p s.pn s.sy i)
  o3 : wr.ownsRow 0 81 65 v s.pn.length (flat s.pn)
  pl : wr.heap[w.heap.size]? = some (.cells #[.int .u64 (p.keep : Int), .int .i64 p.torn, .int .i64 p.cut] 37)
  ch : Chg F w wr
  sz : w.heap.size < wr.heap.size

set_option maxHeartbeats 4000000 in
set_option maxRecDepth 100000 in
theorem crash_calls (F : Nat → Prop) (d n : Nat) (s : St) (p : Pl) (w : World) (h : Dk w F d n s) (hn : n ≤ 2048) (hpn : s.pn.length ≤ 1000000) (hkp : p.keep < 18446744073709551616) :
    Calls Try.prog 21 #[.pointer (some ⟨d, 0, none⟩), p.val] w fun e w' => ∃ F', e = .returned (.tuple #[]) ∧ Dk w' F' d n (s.crash p) ∧ Chg F w w' ∧ Ext F F' w w' := by
  obtain ⟨gs, gn, cs, cn, v, hd, o1, o2, o3, f0, f1', f2', f3, hne, hok⟩ := h
  have hdl := (Array.getElem?_eq_some_iff.1 hd).1
  have hb0 : Below w.heap.size w (w.alloc (.cells #[.int .u64 (p.keep : Int), .int .i64 p.torn, .int .i64 p.cut] 37)) := (Below.refl _ _).alloc (Nat.le_refl _) _
  have m0 : Mid w F d n s p gs gn cs cn v 0 (w.alloc (.cells #[.int .u64 (p.keep : Int), .int .i64 p.torn, .int .i64 p.cut] 37)) :=
    ⟨(hb0.block d hdl).trans hd, o1.alloc _, o3.alloc _, heap_alloc_new _ _, Chg.of_below hb0, by simp⟩
  have k2 : (w.alloc (.cells #[.int .u64 (p.keep : Int), .int .i64 p.torn, .int .i64 p.cut] 37)).cell? ⟨d, 2, none⟩ = some v := (cell_of_row _ d 2 _ _ _ m0.hd).trans rfl
  obtain ⟨A, cv, hv⟩ : ∃ A cv, v = .slice A s.pn.length cv := by
    rcases o3.2 with ⟨e, h0⟩ | ⟨g, cap, cur, e, _⟩
    · exact ⟨none, 0, by rw [h0]; exact e⟩
    · exact ⟨_, _, e⟩
  subst hv
  have hpv : p.val = .agg #[.int .u64 (p.keep : Int), .int .i64 p.torn, .int .i64 p.cut] := rfl
  rw [hpv]
  obtain ⟨m, hm⟩ : ∃ m, m = s.pn.length := ⟨_, rfl⟩
  have Hm := Lib.hid hm
  have M0 := Lib.hid m0
  clear hd o1 o2 o3 hb0 m0
  rw [← hm] at k2
  rw [← hm] at hpn
  clear hm hpv
  go_enter Try.func21, Try.ntmps21
  go_wp2_with fail
  go_loopw [13] (fun i wr => ∃ k : Nat, k ≤ m ∧ i = .int .i64 k ∧ Mid w F d n s p gs gn cs cn (.slice A s.pn.length cv) k wr) (fun i _ => m - (intOf i).toNat)
  case atStart => exact ⟨0, by omega, rfl, M0.out⟩
  case round =>
    obtain ⟨k, hk, rfl, hM⟩ := hrel
    by_cases hlt : k < m
    · have hm := Hm.out
      have hgetm : s.pn.getD k (0, []) ∈ s.pn := by simp [List.getD, List.getElem?_eq_getElem (show k < s.pn.length by omega)]
      have hfa := flat_at (fun r hr => (hok.pl r hr).2.1) (i := k) (show k < s.pn.length by omega)
      have hstep : crashTo p s.pn s.sy (k + 1) = put (crashTo p s.pn s.sy k) (s.pn.getD k (0, [])).1 ((s.pn.getD k (0, [])).2.take (p.left k)) := rfl
      obtain ⟨hqn, hql, hqb⟩ := hok.pl _ hgetm
      generalize (s.pn.getD k (0, [])).1 = q at hqn hfa hstep
      generalize (s.pn.getD k (0, [])).2 = ks at hql hqb hfa hstep
      obtain ⟨md, mo1, mo3, mpl, mch, msz⟩ := hM
      obtain ⟨gv, rfl⟩ : ∃ gv, A = some ⟨gv, 0, none⟩ := by
        rcases mo3.2 with ⟨e, h0⟩ | ⟨g, cap, cur, e, _⟩
        · omega
        · simp only [Value.slice.injEq] at e; exact ⟨g, e.1⟩
      have hl65 : (Value.int .i64 (q : Int) :: ks).length = 65 := by simp [hql]
      have hld : (loadVar 81 ⟨gv, k * 65, none⟩).run Try.prog wr = .ok (.agg (Value.int .i64 (q : Int) :: ks).toArray) wr := load_write hl65 (fun j u hj => by
        rw [← hfa, List.getElem?_take] at hj
        split at hj
        · rw [List.getElem?_drop] at hj
          have := own_cells mo3 _ u hj
          rw [Addr.add_lit] at this ⊢
          rw [← this]; congr 2; omega
        · cases hj)
      have hone : (Value.int .i64 (q : Int) :: ks).toArray.all (·.oneCell') = true := Array.all_eq_true_iff_forall_mem.2 fun u hu => by
        rcases List.mem_cons.1 (by simpa using hu) with rfl | hu
        · rfl
        · exact hqb.one u hu
      have size81 : (Try.prog.info? 81).map (·.size) = some 65 := by kernel_rfl
      have hst : (storeVar 81 ⟨wr.heap.size, 0, none⟩ (.agg (Value.int .i64 (q : Int) :: ks).toArray)).run Try.prog (wr.alloc (.cells Z65 81)) = .ok () (wr.alloc (.cells (Value.int .i64 (q : Int) :: ks).toArray 81)) := run_storeVar_new wr 81 Z65 _ (by rw [size81]; simp [hql]) (by simp [hql, Z65]) hone
      have hb1 : Below wr.heap.size wr (wr.alloc (.cells (Value.int .i64 (q : Int) :: ks).toArray 81)).drew := ((Below.refl _ _).alloc (Nat.le_refl _) _).drew
      have hnew : (wr.alloc (.cells (Value.int .i64 (q : Int) :: ks).toArray 81)).drew.heap[wr.heap.size]? = some (.cells (Value.int .i64 (q : Int) :: ks).toArray 81) := heap_alloc_new wr _
      have hmdl := (Array.getElem?_eq_some_iff.1 md).1
      have hall : ∀ w6, Below (wr.alloc (.cells (Value.int .i64 (q : Int) :: ks).toArray 81)).drew.heap.size (wr.alloc (.cells (Value.int .i64 (q : Int) :: ks).toArray 81)).drew w6 →
          w6.cell? ⟨d, 0, none⟩ = some (.slice (some ⟨gs, 0, none⟩) n cs) ∧ w6.cell? ⟨wr.heap.size, 0, none⟩ = some (.int .i64 (q : Int)) ∧ (loadVar 37 ⟨w.heap.size, 0, none⟩).run Try.prog w6 = .ok p.val w6 ∧
          (w6.ownsRow 0 78 64 (.slice (some ⟨gs, 0, none⟩) n cs) n (crashTo p s.pn s.sy k) ∧ ∀ j u, ks[j]? = some u → w6.cell? ((⟨wr.heap.size, 1, none⟩ : Addr).add j) = some u) := by
        intro w6 hb6
        have hbw : ∀ i, i < wr.heap.size → w6.heap[i]? = wr.heap[i]? := fun i hi => (hb6.block i (by simp; omega)).trans (hb1.block i hi)
        have hn6 := (hb6.block wr.heap.size (by simp)).trans hnew
        refine ⟨(cell_of_row _ d 0 _ _ _ ((hbw d hmdl).trans md)).trans rfl, (cell_of_row _ _ 0 _ _ _ hn6).trans rfl, ?_, own_move mo1 (fun g hg => ?_), fun j u hj => ?_⟩
        · exact run_loadVar_row (P := Try.prog) _ w.heap.size 37 37 _ (0, 0) _ ((hbw _ msz).trans mpl) Try.underlying37 rfl (by kernel_rfl)
        · obtain ⟨cu, hcu⟩ := own_type mo1 hg
          exact hbw g (Array.getElem?_eq_some_iff.1 hcu).1
        · rw [Addr.add_lit, cell_of_row _ _ _ _ _ _ hn6]
          rw [Nat.add_comm]
          simpa using hj
      obtain ⟨ha, hb, hc, _⟩ := hall _ (Below.refl _ _)
      have hki : k ≤ 1000000 := by omega
      have i1 : (0 : Int) ≤ (q : Int) := by omega
      have i2 : (q : Int) < (n : Int) := by omega
      have i3 : (0 : Int) ≤ (k : Int) := by omega
      have i4 : (k : Int) < (m : Int) := by omega
      have hstay := Lib.hid hall
      have HM : Hid (wr.heap[d]? = _ ∧ wr.ownsRow 0 81 65 _ s.pn.length (flat s.pn) ∧ wr.heap[w.heap.size]? = _) := ⟨md, mo3, mpl⟩
      have HC := Lib.hid hstep
      have HF := Lib.hid hfa
      have kd2 := hnew
      clear hall md mo1 mo3 mpl hfa hstep hm hnew kd2 hone
      have hle := p.left_le k
      have hsl := slice_sec gs (q * 64) (p.left k) hle
      have hzv : ∀ W, (zeroValue 81).run Try.prog W = .ok (.agg Z65) W := fun W => by
        have h : (Try.prog.info? 81).map (·.zero) = some (some (.agg Z65)) := by kernel_rfl
        obtain ⟨i0, hi, hz⟩ := Option.map_eq_some_iff.1 h
        simp [zeroValue, typeInfo, hi, hz]
      go_wp2_with (first | (refine wpList_store_run rfl 81 _ _ rfl rfl _ rfl _ rfl _ hst ?_) | (refine wpList_load_run rfl 81 _ rfl _ rfl _ hld ?_))
      refine start_ (n := 14) (S := fun w' => w'.cell? ⟨d, 0, none⟩ = some (.slice (some ⟨gs, 0, none⟩) n cs) ∧ w'.cell? ⟨wr.heap.size, 0, none⟩ = some (.int .i64 (q : Int)) ∧ (loadVar 37 ⟨w.heap.size, 0, none⟩).run Try.prog w' = .ok p.val w') (ds := [13]) #[false, false, false, false, false, false, false, false, false, false, false, false, false, false] (by kernel_rfl) rfl rfl ⟨ha, hb, hc⟩ (fun hHeld => ?_)
      refine pure_ (i := 0) (N := some 18) (v := ?_) (a' := ?_) #[true, false, false, false, false, false, false, false, false, false, false, false, false, false] rfl rfl (by kernel_rfl) (fun _ _ _ h => h) (Or.inl ⟨by rfl, ?_⟩) ?_ ?_
      rotate_left
      · intro w'
        go_simp
        with_reducible rfl
      rotate_left
      · simp only [Act.put, List.setIfInBounds_toArray, List.set_cons_zero, List.set_cons_succ, i64_w, i32_w]
        rfl
      refine pure_ (i := 1) (N := some 19) (v := ?_) (a' := ?_) #[true, true, false, false, false, false, false, false, false, false, false, false, false, false] rfl rfl (by kernel_rfl) (fun _ _ _ h => h) (Or.inl ⟨by rfl, ?_⟩) ?_ ?_
      rotate_left
      · intro w'
        go_simp
        with_reducible rfl
      rotate_left
      · simp only [Act.put, List.setIfInBounds_toArray, List.set_cons_zero, List.set_cons_succ, i64_w, i32_w]
        rfl
      refine pure_ (i := 2) (N := some 20) (v := ?_) (a' := ?_) #[true, true, true, false, false, false, false, false, false, false, false, false, false, false] rfl rfl (by kernel_rfl) (fun _ _ _ h => h) (Or.inl ⟨by rfl, ?_⟩) ?_ ?_
      rotate_left
      · intro w'
        go_simp
        with_reducible rfl
      rotate_left
      · simp only [Act.put, List.setIfInBounds_toArray, List.set_cons_zero, List.set_cons_succ, i64_w, i32_w]
        rfl
      refine pure_ (i := 4) (N := some 22) (v := ?_) (a' := ?_) #[true, true, true, false, true, false, false, false, false, false, false, false, false, false] rfl rfl (by kernel_rfl) (fun _ _ _ h => h) (Or.inl ⟨by rfl, ?_⟩) ?_ ?_
      rotate_left
      · intro w'
        go_simp
        with_reducible rfl
      rotate_left
      · simp only [Act.put, List.setIfInBounds_toArray, List.set_cons_zero, List.set_cons_succ, i64_w, i32_w]
        rfl
      refine pure_ (i := 7) (N := some 25) (v := ?_) (a' := ?_) #[true, true, true, false, true, false, false, true, false, false, false, false, false, false] rfl rfl (by kernel_rfl) (fun _ _ _ h => h) (Or.inl ⟨by rfl, ?_⟩) ?_ ?_
      rotate_left
      · intro w'
        go_simp
        with_reducible rfl
      rotate_left
      · simp only [Act.put, List.setIfInBounds_toArray, List.set_cons_zero, List.set_cons_succ, i64_w, i32_w]
        rfl
      refine pure_ (i := 11) (N := some 29) (v := ?_) (a' := ?_) #[true, true, true, false, true, false, false, true, false, false, false, true, false, false] rfl rfl (by kernel_rfl) (fun _ _ _ h => h) (Or.inl ⟨by rfl, ?_⟩) ?_ ?_
      rotate_left
      · intro w'
        go_simp
        with_reducible rfl
      rotate_left
      · simp only [Act.put, List.setIfInBounds_toArray, List.set_cons_zero, List.set_cons_succ, i64_w, i32_w]
        rfl
      refine pure_ (i := 12) (N := some 30) (v := ?_) (a' := ?_) #[true, true, true, false, true, false, false, true, false, false, false, true, true, false] rfl rfl (by kernel_rfl) (fun _ _ _ h => h) (Or.inl ⟨by rfl, ?_⟩) ?_ ?_
      rotate_left
      · intro w'
        go_simp
        with_reducible rfl
      rotate_left
      · simp only [Act.put, List.setIfInBounds_toArray, List.set_cons_zero, List.set_cons_succ, i64_w, i32_w]
        rfl
      refine take_ (i := 3) (N := some 21) (v := ?_) (a' := ?_) #[true, true, true, true, true, false, false, true, false, false, false, true, true, false] rfl rfl (by kernel_rfl) (fun _ _ _ h => h) (Or.inl ⟨by rfl, ?_⟩) hHeld ?_ ?_
      rotate_left
      · rintro w' ⟨s0, s1, s2⟩
        go_simp
        with_reducible rfl
      rotate_left
      · simp only [Act.put, List.setIfInBounds_toArray, List.set_cons_zero, List.set_cons_succ, i64_w, i32_w]
        rfl
      refine take_ (i := 5) (N := some 23) (v := ?_) (a' := ?_) #[true, true, true, true, true, true, false, true, false, false, false, true, true, false] rfl rfl (by kernel_rfl) (fun _ _ _ h => h) (Or.inl ⟨by rfl, ?_⟩) hHeld ?_ ?_
      rotate_left
      · rintro w' ⟨s0, s1, s2⟩
        go_simp
        with_reducible rfl
      rotate_left
      · simp only [Act.put, List.setIfInBounds_toArray, List.set_cons_zero, List.set_cons_succ, i64_w, i32_w]
        rfl
      refine pure_ (i := 6) (N := some 24) (v := ?_) (a' := ?_) #[true, true, true, true, true, true, true, true, false, false, false, true, true, false] rfl rfl (by kernel_rfl) (fun _ _ _ h => h) (Or.inl ⟨by rfl, ?_⟩) ?_ ?_
      rotate_left
      · intro w'
        go_simp
        with_reducible rfl
      rotate_left
      · simp only [Act.put, List.setIfInBounds_toArray, List.set_cons_zero, List.set_cons_succ, i64_w, i32_w]
        rfl
      refine take_ (i := 8) (N := some 26) (v := ?_) (a' := ?_) #[true, true, true, true, true, true, true, true, true, false, false, true, true, false] rfl rfl (by kernel_rfl) (fun _ _ _ h => h) (Or.inl ⟨by rfl, ?_⟩) hHeld ?_ ?_
      rotate_left
      · rintro w' ⟨s0, s1, s2⟩
        rw [exec_load 37 _ rfl _ (by rfl) _ s2]
      rotate_left
      · simp only [Act.put, List.setIfInBounds_toArray, List.set_cons_zero, List.set_cons_succ, i64_w, i32_w]
        rfl
      refine one_ (i := 9) (N := some 27) #[true, true, true, true, true, true, true, true, true, true, false, true, true, false] rfl rfl (by kernel_rfl) (by decide) (fun K hK => ?_)
      refine goes_ Try.func39 (by kernel_rfl) rfl #[.int .i64 (k : Int), p.val] (by rfl) rfl rfl (by simp only [List.map_toArray, List.map_cons, List.map_nil]; rfl) ?_
      with_reducible refine ((left_calls2 p k hki hkp _)).mono ?_
      rintro e w6 ⟨rfl, hb6⟩
      refine ⟨_, rfl, ?_⟩
      obtain ⟨f1, f2, f3, o6⟩ := hstay.out w6 hb6
      obtain ⟨w7, hcp, o7, g7, hs7⟩ := copy_sec (cc := 64) o6.1 hqn (p.left_le k) hql hqb o6.2 3
      refine hK.out _ _ ⟨f1, f2, f3⟩ (fun hHeld => ?_)
      clear hK K
      refine norm_ (a' := ?_) ?_ ?_
      rotate_left
      · show Act.put _ (some 27) _ = _
        simp only [Act.put, List.setIfInBounds_toArray, List.set_cons_zero, List.set_cons_succ, i64_w, i32_w]
        rfl
      refine pure_ (i := 10) (N := some 28) (v := ?_) (a' := ?_) #[true, true, true, true, true, true, true, true, true, true, true, true, true, false] rfl rfl (by kernel_rfl) (fun _ _ _ h => h) (Or.inl ⟨by rfl, ?_⟩) ?_ ?_
      rotate_left
      · intro w'
        go_simp
        with_reducible rfl
      rotate_left
      · simp only [Act.put, List.setIfInBounds_toArray, List.set_cons_zero, List.set_cons_succ, i64_w, i32_w]
        rfl
      refine last_ (i := 13) (N := some 31) #[true, true, true, true, true, true, true, true, true, true, true, true, true, true] rfl rfl (by kernel_rfl) (by decide) (fun K hK => ?_)
      refine value_ (w1 := ?_) (v := ?_) (by rfl) rfl ?_ ?_
      rotate_left 2
      · rw [exec_copy rfl (by rfl) (by rfl) hcp]
      refine hK.out _ _ ?_
      clear hK K
      refine norm_ (a' := ?_) ?_ ?_
      rotate_left
      · show Act.put _ (some 31) _ = _
        simp only [Act.put, List.setIfInBounds_toArray, List.set_cons_zero, List.set_cons_succ, i64_w, i32_w]
        rfl
      refine done_ (by kernel_rfl) ?_
      go_wp2
      obtain ⟨md, mo3, mpl⟩ := HM
      have hs6 : wr.heap.size + 1 ≤ w6.heap.size := by have := hb6.size; simp at this; omega
      have hbw : ∀ i, i < wr.heap.size → i ≠ gs → w7.heap[i]? = wr.heap[i]? := fun i hi hq => (g7.block i (by omega) (fun e => hq (Option.some.inj e))).trans ((hb6.block i (by simp; omega)).trans (hb1.block i hi))
      obtain ⟨gsc, hgsc⟩ : ∃ cur, w6.heap[gs]? = some (.cells cur 78) := own_type o6.1 rfl
      have hgs6 := (Array.getElem?_eq_some_iff.1 hgsc).1
      have hdgs : d ≠ gs := fun e => by
        have := (hb6.block d (by simp; omega)).trans ((hb1.block d hmdl).trans md)
        exact type_ne this hgsc (by decide) e
      have hpgs : w.heap.size ≠ gs := fun e => by
        have := (hb6.block w.heap.size (by simp; omega)).trans ((hb1.block _ msz).trans mpl)
        exact type_ne this hgsc (by decide) e
      refine ⟨⟨k + 1, by omega, by go_num, ⟨(hbw d hmdl hdgs).trans md, by rw [HC.out]; exact o7, own_move mo3 (fun g hg => ?_), (hbw _ msz hpgs).trans mpl, ?_, by omega⟩⟩, by simp [intOf]; omega⟩
      · obtain ⟨cu, hcu⟩ := own_type mo3 hg
        have hgl := (Array.getElem?_eq_some_iff.1 hcu).1
        exact hbw g hgl (fun e => by
          have := (hb6.block g (by simp; omega)).trans ((hb1.block g hgl).trans hcu)
          exact type_ne this hgsc (by decide) e)
      · exact ⟨g7.os.trans (hb6.os.trans (hb1.os.trans mch.os)), g7.tape.trans (hb6.tape.trans (hb1.tape.trans mch.tape)), g7.output.trans (hb6.output.trans (hb1.output.trans mch.output)), by omega, fun i hi hf => (hbw i (by omega) (fun e => hf (by rw [e]; exact f1'))).trans (mch.block i hi hf)⟩
    · obtain rfl : k = m := by omega
      have hm := Hm.out
      obtain ⟨md, mo1, mo3, mpl, mch, msz⟩ := hM
      have hby := crashTo_bytes p hok.sb hok.pl s.pn.length (Nat.le_refl _)
      have hle := crashTo_length p hok.sl hok.pl s.pn.length (Nat.le_refl _)
      have k0 : wr.cell? ⟨d, 0, none⟩ = some (.slice (some ⟨gs, 0, none⟩) n cs) := (cell_of_row _ d 0 _ _ _ md).trans rfl
      rw [hm] at mo1
      have MO1 := Lib.hid mo1
      clear mo1 mo3 hm
      go_wp2_with fail
      refine (clone_sectors gs n cs _ wr MO1.out hby hn).mono ?_
      rintro e w2 ⟨g', c', rfl, hg1, hg2, og, hb2⟩
      have hdl2 := (Array.getElem?_eq_some_iff.1 md).1
      have h0 := (hb2.block d hdl2).trans md
      have h1 := heap_setCell_same w2 d 1 _ _ (.slice (some ⟨g', 0, none⟩) n c') h0
      have h2 := heap_setCell_same _ d 2 _ _ (.slice none 0 0) h1
      have h3 := heap_setCell_same _ d 3 _ _ (.int .i64 (-1)) h2
      have h4 := heap_setCell_same _ d 4 _ _ (.bool false) h3
      have c1 := (cell_of_row _ d 1 _ _ _ h0).trans rfl
      have z1 := frozen_of_row _ d 1 _ _ h0
      have c2 := (cell_of_row _ d 2 _ _ _ h1).trans rfl
      have z2 := frozen_of_row _ d 2 _ _ h0
      have c3 := (cell_of_row _ d 3 _ _ _ h2).trans rfl
      have z3 := frozen_of_row _ d 3 _ _ h0
      have c4 := (cell_of_row _ d 4 _ _ _ h3).trans rfl
      have z4 := frozen_of_row _ d 4 _ _ h0
      obtain ⟨w4, hw4⟩ : ∃ w4, w4 = ((((w2.setCell ⟨d, 1, none⟩ (.slice (some ⟨g', 0, none⟩) n c')).setCell ⟨d, 2, none⟩ (.slice none 0 0)).setCell ⟨d, 3, none⟩ (.int .i64 (-1))).setCell ⟨d, 4, none⟩ (.bool false)) := ⟨_, rfl⟩
      have hblk : ∀ j, j ≠ d → w4.heap[j]? = w2.heap[j]? := fun j hj => by
        rw [hw4]
        exact (Below.heap_setCell _ _ _ j hj).trans ((Below.heap_setCell _ _ _ j hj).trans ((Below.heap_setCell _ _ _ j hj).trans (Below.heap_setCell _ _ _ j hj)))
      have hsz : w4.heap.size = w2.heap.size := by rw [hw4]; simp
      rw [← hw4] at h4
      obtain ⟨gsc, hgsc⟩ : ∃ cur, wr.heap[gs]? = some (.cells cur 78) := own_type MO1.out rfl
      have hgsl := (Array.getElem?_eq_some_iff.1 hgsc).1
      have hsync := own_move MO1.out (w' := w4) (fun g hg => by
        cases hg
        exact (hblk gs (type_ne hgsc md (by decide))).trans (hb2.block gs hgsl))
      have hnow := own_move og (w' := w4) (fun g hg => by
        cases hg
        exact hblk g' (by omega))
      have hfin : Dk w4 (fun i => F i ∨ (w.heap.size ≤ i ∧ i < w4.heap.size)) d n (s.crash p) :=
        ⟨gs, g', cs, c', .slice none 0 0, by rw [h4]; rfl, hsync, hnow, World.ownsRow_nil _ _ _ _, .inl f0, .inl f1', .inr ⟨by omega, by omega⟩, (fun g hg => by simp [Value.ownBlock] at hg), by omega, hle, hle, hby, hby, (fun q hq => by cases hq), by show (-9223372036854775808 : Int) ≤ -1; decide, by show (-1 : Int) ≤ 9223372036854775807; decide⟩
      have hchg : Chg F w w4 := ⟨by rw [hw4]; exact hb2.os.trans mch.os, by rw [hw4]; exact hb2.tape.trans mch.tape, by rw [hw4]; exact hb2.output.trans mch.output, by have := mch.size; have := hb2.size; omega, fun i hi hf => (hblk i (fun e => hf (by rw [e]; exact f0))).trans ((hb2.block i (by omega)).trans (mch.block i hi hf))⟩
      have hext : Ext F (fun i => F i ∨ (w.heap.size ≤ i ∧ i < w4.heap.size)) w w4 := fun i hi => hi
      have HW := Lib.hid hw4
      clear hw4 h0 h1 h2 h3 h4 hblk hsz md mpl
      go_wp2
      go_end0
      rw [← HW.out]
      exact ⟨_, rfl, hfin, hchg, hext⟩
end Go.Proofs.Ytomihbanpjedeaa
