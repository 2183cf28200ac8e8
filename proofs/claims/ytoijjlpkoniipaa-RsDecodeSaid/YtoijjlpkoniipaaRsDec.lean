/- Codes: Decode. -/
import Derived.Test.YtoijjlpkoniipaaRsWrong
set_option linter.unusedVariables false
set_option linter.unusedSimpArgs false
namespace Go.Proofs.Ytoijjlpkoniipaa
open Go.RowKit Go.Proofs.YtoijjlpkoniipaaW.PrintWords Go.Proofs.YtoijjlpkoniipaaW.PrintLast Gf Lin
theorem exec_append {P : Program} {w w' : World} {ρ : Operand → Value} {o : Oper} {t tn : TypeId} {x y : Operand} {vx vy v : Value} (ho : o.op = .call { callee := .builtin .append, args := #[x, y], argTypes := #[t, tn] }) (hx : ρ x = vx) (hy : ρ y = vy) (hr : (Builtin.append_ #[t, tn] o.type #[vx, vy]).run P w = .ok v w') : (execOp ρ o).run P w = .ok (.value v) w' := by
  unfold execOp
  simp only [ho, resolve, invoke, builtin, Sem.run_bind, Sem.run_pure, Result.andThen_ok, List.map_toArray, List.map_cons, List.map_nil, hx, hy, hr]
theorem Gw.older {w0 w : World} {v : Value} {i : Nat} {m : List (List UInt8)} (h : Gw w0 w v i m) {B : Option Addr} {q cB : Nat} {r : List UInt8} (hr : RS w0 B q cB r) (hq : 0 < q) : ∀ a, B = some a → v.ownBlock ≠ some a.block := by
  intro a ha e
  subst ha
  obtain ⟨us, h1, _⟩ := h.own
  have := (h1.lt _ e).1
  have := hr.block_lt hq
  omega
/-- The rows of the pieces that are there. -/
def pickM (k : Nat) (zs : List Int) : Lin.M := fun a j => codeM k (gz zs a).toNat j
theorem pick_full' {k n : Nat} {zs : List Int} (hk1 : 1 ≤ k) (hk : k ≤ n) (hn : n ≤ 255) (hz : AtOk n zs) (hl : k ≤ zs.length) {y : Nat → UInt8} (h0 : ∀ a, a < k → sm k (fun j => gm (pickM k zs a j) (y j)) = 0) : ∀ j, j < k → y j = 0 := by
  have hnn : ((zs.take k).map Int.toNat).Nodup := by
    have h1 : (zs.take k).Nodup := hz.2.sublist (List.take_sublist _ _)
    rw [List.nodup_iff_pairwise_ne, List.pairwise_map]
    refine List.Pairwise.imp_of_mem (fun {a b} ha hb hne e => hne ?_) (List.nodup_iff_pairwise_ne.1 h1)
    have h2 := hz.1 a (List.mem_of_mem_take ha)
    have h3 := hz.1 b (List.mem_of_mem_take hb)
    omega
  refine code_full (n := n) (ps := (zs.take k).map Int.toNat) (fun p hp => ?_) hnn (by simp; omega) (by omega) (by omega) (fun p hp => ?_)
  · rw [List.mem_map] at hp
    obtain ⟨z, hz', rfl⟩ := hp
    have := hz.1 z (List.mem_of_mem_take hz')
    omega
  · obtain ⟨a, ha, rfl⟩ := List.getElem_of_mem hp
    have hak : a < k := by simp at ha; omega
    have := h0 a hak
    simp only [List.getElem_map, List.getElem_take]
    unfold pickM at this
    rw [gz_at (by omega)] at this
    exact this
theorem pick_sq' {k : Nat} (zs : List Int) (hk1 : 1 ≤ k) (hk : k ≤ 255) : Sq (rowsOf k k (pickM k zs)) := ⟨rgt_rowsOf _ hk1 hk hk1 hk, by rw [rowsOf_length, len0_rowsOf _ hk1]⟩
/-- What Inverse comes to there. -/
theorem pick_inv {k n : Nat} {zs : List Int} {x : List (List UInt8)} {ev : Int} (hk1 : 1 ≤ k) (hk : k ≤ n) (hn : n ≤ 255) (hz : AtOk n zs) (hl : k ≤ zs.length) (h : InvR (rowsOf k k (pickM k zs)) x ev) :
    ev = 0 ∧ ∃ S : Lin.M, (∀ i, i < k → ∀ j, j < k → mul k S (pickM k zs) i j = Lin.unit i j) ∧ (∀ i, i < k → ∀ j, j < k → mul k (pickM k zs) S i j = Lin.unit i j) ∧ x = rowsOf k k S := by
  rcases h with ⟨h1, _⟩ | ⟨_, _, _, y, i, hi, hy, h0⟩ | ⟨_, h3, M, S, h1, h2, rfl⟩
  · exact absurd (pick_sq' zs hk1 (by omega)) h1
  · rw [rowsOf_length] at hi h0
    refine absurd (pick_full' hk1 hk hn hz hl (y := y) (fun a ha => ?_) i hi) hy
    rw [← h0 a ha]
    exact sm_congr fun j hj => by rw [fn_rowsOf _ ha hj]
  · rw [rowsOf_length] at h1 h2 ⊢
    have hi := h1.inverse h2
    refine ⟨h3, S, fun i hi' j hj => ?_, fun i hi' j hj => ?_, rfl⟩
    · rw [← hi.1 i hi' j hj]
      exact sm_congr fun t ht => by rw [fn_rowsOf _ ht hj]
    · rw [← hi.2 i hi' j hj]
      exact sm_congr fun t ht => by rw [fn_rowsOf _ hi' ht]
/-- The first i rows that come of the pieces. -/
def decB (k i : Nat) (S : Lin.M) (m : List (List UInt8)) : List (List UInt8) := (List.range i).map fun j => sumB ((List.range k).map (S j)) (m.take k)
theorem decB_succ (k i : Nat) (S : Lin.M) (m : List (List UInt8)) : decB k (i + 1) S m = decB k i S m ++ [sumB ((List.range k).map (S i)) (m.take k)] := by unfold decB; rw [List.range_succ, List.map_append]; rfl
/-- What Decode answers. -/
def DecP (k n : Nat) (zs : List Int) (m x : List (List UInt8)) (ev : Int) : Prop :=
  (docWrong k n zs m ≠ 0 ∧ x = [] ∧ ev = docWrong k n zs m) ∨
  (docWrong k n zs m = 0 ∧ ev = 0 ∧ ∃ S : Lin.M, (∀ i, i < k → ∀ j, j < k → mul k S (pickM k zs) i j = Lin.unit i j) ∧ (∀ i, i < k → ∀ j, j < k → mul k (pickM k zs) S i j = Lin.unit i j) ∧ x = decB k k S m)
theorem docWrong_zero {k n : Nat} {zs : List Int} {m : List (List UInt8)} (h : docWrong k n zs m = 0) : (zs.length = m.length ∧ Alike m) ∧ AtOk n zs ∧ k ≤ zs.length := by
  by_cases h1 : zs.length = m.length ∧ Alike m
  · by_cases h2 : AtOk n zs
    · by_cases h3 : zs.length < k
      · rw [docWrong_10 h1 h2 h3] at h; cases h
      · exact ⟨h1, h2, by omega⟩
    · rw [docWrong_3 h1 h2] at h; cases h
  · rw [docWrong_14 h1] at h; cases h
theorem RD.take {w : World} {A : Option Addr} {q c k : Nat} {m : List (List UInt8)} (h : RD w A q c m) (hk : k ≤ q) : RD w A k c (m.take k) := by
  have hl := h.len
  have e : (m.take k).length = k := by rw [List.length_take]; omega
  have key := CC_of_cells (w := w) (A := A) (m.take k) (by have := h.rd.2.1; omega) (fun hp => by
    obtain ⟨ad, _, _, rfl, _⟩ := h.row (k := 0) (by omega)
    refine ⟨ad, rfl, fun j hj => ?_⟩
    obtain ⟨ad', B, cB, e', h1, h2⟩ := h.row (k := j) (by omega)
    cases e'
    have eg : gr (m.take k) j = gr m j := by rw [gr_at hj, gr_at (by omega), List.getElem_take]
    rw [eg]
    exact ⟨B, cB, h1, h2.le, h2.rd⟩)
  rw [e] at key
  exact ⟨by have := h.le; omega, key⟩
theorem alike_take {m : List (List UInt8)} {k : Nat} (h : Alike m) : Alike (m.take k) := by
  cases m with
  | nil => simpa using h
  | cons a l =>
    cases k with
    | zero => intro r hr; simp at hr
    | succ k => intro r hr; exact h r (List.mem_of_mem_take hr)
theorem dec_nil (B : Option Addr) (q c : Nat) (C : Option Addr) (q' c' : Nat) (w : World) : Calls Try.prog 47 #[.pointer none, .slice B q c, .slice C q' c'] w fun e w' => e = .returned (.tuple #[.slice none 0 0, .int .i64 15]) ∧ w' = w := by
  go_enter Try.func47, Try.ntmps47
  go_wp2_with fail
  go_ret2
  exact ⟨rfl, rfl⟩
set_option maxHeartbeats 2000000 in
set_option maxRecDepth 100000 in
theorem dec_R {w : World} {gc gt : Nat} {A : Option Addr} {k n cap : Nat} (H : Cd w gc gt A k n cap) {B : Option Addr} {q c : Nat} {zs : List Int} (hz : RI w B q c zs) (hq : q ≤ 1000) {C : Option Addr} {q' c' : Nat} {m : List (List UInt8)} (h : RD w C q' c' m) (hq' : q' ≤ 1000) (hn : ∀ r ∈ m, r.length ≤ 1000000) :
    Calls Try.prog 47 #[.pointer (some ⟨gc, 0, none⟩), .slice B q c, .slice C q' c'] w fun e w' => ∃ D s d x ev, e = .returned (.tuple #[.slice D s d, .int .i64 ev]) ∧ DecP k n zs m x ev ∧ RD w' D s d x ∧ Below w.heap.size w w' := by
  have hwr := wrong_R H hz hq h hq'
  have hn2 := H.n2
  have hk1 := H.k1
  have hk2 : k ≤ 255 := Nat.le_trans H.kn hn2
  have HC := Lib.hid H
  have HZ := Lib.hid hz
  have HM := Lib.hid h
  have HN := Lib.hid hn
  clear H hz h hn
  go_enter Try.func47, Try.ntmps47
  go_wp2_with fail
  refine hwr.mono ?_
  clear hwr
  rintro e w1 ⟨z, rfl, hzz, hb1⟩
  have HB := Lib.hid hb1
  replace HC := Lib.hid (HC.out.below hb1)
  replace HZ := Lib.hid (HZ.out.below hb1)
  replace HM := Lib.hid (HM.out.below hb1)
  have HZZ := Lib.hid hzz
  clear hb1 hzz
  by_cases hz0 : z = 0
  · subst hz0
    obtain ⟨⟨hlen, hal⟩, hok, hkl⟩ := docWrong_zero HZZ.out.symm
    have hlz := HZ.out.len
    have hlm := HM.out.len
    have hkq : k ≤ q := by omega
    have hkq' : k ≤ q' := by omega
    have hle := HZ.out.le
    have hle' := HM.out.le
    obtain ⟨bd_, hB, _⟩ := HZ.out.num (k := 0) (by omega)
    subst hB
    obtain ⟨pd, _, _, hC, _⟩ := HM.out.row (k := 0) (by omega)
    subst hC
    have c1 := HC.out.c1
    have s1 : (0 : Int) ≤ (k : Int) := by omega
    have s2 : (k : Int) ≤ (c : Int) := by omega
    have HLE : Hid (zs.length = q ∧ m.length = q' ∧ k ≤ q ∧ k ≤ q' ∧ k ≤ c') := Lib.hid ⟨hlz, hlm, hkq, hkq', by omega⟩
    have HOK := Lib.hid hok
    have HAL := Lib.hid hal
    have hkc : k ≤ c := by omega
    clear hlen hal hok hkl hlz hlm hkq hkq' hle hle'
    go_wp2_with fail
    go_loopw [9, 33] (fun v x wr => ∃ i : Nat, i ≤ k ∧ x = .int .i64 i ∧ Gw w1 wr v i (rowsOf i k (pickM k zs))) (fun _ x _ => k - (intOf x).toNat)
    case atStart => exact ⟨0, by omega, rfl, Gw.start _⟩
    case round =>
      obtain ⟨i, hi, rfl, hgw⟩ := hrel
      by_cases hik : i < k
      · have hc := HC.out.below hgw.bel
        obtain ⟨ad', e', hcell⟩ := (HZ.out.below hgw.bel).num (k := i) (by have := HLE.out; omega)
        cases e'
        obtain ⟨z0, z1⟩ := HOK.out.range (i := i) (by have := HLE.out; omega)
        obtain ⟨p, hp⟩ : ∃ p : Nat, gz zs i = (p : Int) := ⟨(gz zs i).toNat, by omega⟩
        rw [hp] at hcell z1
        have hpn : p < n := by omega
        obtain ⟨ad, R, cR, hA, hrcell, hrow⟩ := hc.rd.row (k := p) hpn
        cases hA
        obtain ⟨ad2, R2, cR2, hA2, hrcell2, hrow2⟩ := HC.out.rd.row (k := p) hpn
        cases hA2
        have e1 : gr (rowsOf n k (codeM k)) p = (List.range k).map (codeM k p) := gr_rowsOf _ hpn
        rw [e1] at hrcell hrow hrcell2 hrow2
        have el : ((List.range k).map (codeM k p)).length = k := by simp
        rw [el] at hrcell hrow hrcell2 hrow2
        have eR := (pw_cell_below hgw.bel hrcell2).symm.trans hrcell
        simp only [Option.some.injEq, Value.slice.injEq] at eR
        obtain ⟨rfl, _, rfl⟩ := eR
        have c2 := hc.c2
        have hold := hgw.older hrow2 (by omega)
        obtain ⟨A0, cap0, rfl⟩ := hgw.form
        obtain ⟨A', cap', w3, hr, hgw'⟩ := hgw.step (Below.refl _ _) hrow hold (by omega) 36
        have em : rowsOf i k (pickM k zs) ++ [(List.range k).map (codeM k p)] = rowsOf (i + 1) k (pickM k zs) := by
          rw [rowsOf_succ]
          congr 2
          unfold pickM
          rw [hp, Int.toNat_natCast]
        rw [em] at hgw'
        have l1 : (0 : Int) ≤ (i : Int) := by omega
        have l2 : (i : Int) < (k : Int) := by omega
        have p0 : (0 : Int) ≤ (p : Int) := by omega
        have HG2 := Lib.hid hgw'
        clear hgw hgw' hc hrow hrow2 hrcell2 e1 el em hold z0 hp
        go_wp2_with (at_builtin; refine Lib.wpList_append_run _ rfl _ _ _ _ rfl _ _ rfl rfl _ _ hr ?_)
        exact ⟨⟨i + 1, by omega, by go_num, HG2.out⟩, by simp [intOf]; omega⟩
      · obtain rfl : k = i := by omega
        obtain ⟨A0, cap0, rfl⟩ := hgw.form
        have hc := HC.out.below hgw.bel
        have hinv := inv_R hc.td (hgw.rd (by omega))
        have c0 := hc.c0
        have HB2 := Lib.hid (bthen HB.out hgw.bel)
        replace HC := Lib.hid hc
        replace HM := Lib.hid (HM.out.below hgw.bel)
        clear hgw hc
        go_wp2_with fail
        refine hinv.mono ?_
        clear hinv
        rintro e w5 ⟨D, s, d, x, ev, rfl, hiv, hrd, hb5⟩
        obtain ⟨rfl, S, hS1, hS2, rfl⟩ := pick_inv hk1 HC.out.kn hn2 HOK.out (by have := HLE.out; omega) hiv
        have hsl := hrd.len
        rw [rowsOf_length] at hsl
        subst hsl
        have HX := Lib.hid hrd
        have HS1 := Lib.hid hS1
        have HS2 := Lib.hid hS2
        replace HB := Lib.hid (bthen HB2.out hb5)
        replace HC := Lib.hid (HC.out.below hb5)
        replace HM := Lib.hid (HM.out.below hb5)
        clear hb5 hiv hrd hS1 hS2 c0 c1 HB2
        go_wp2_with fail
        go_loopw [14, 63] (fun v x wr => ∃ i : Nat, i ≤ k ∧ x = .int .i64 i ∧ Gw w5 wr v i (decB k i S m)) (fun _ x _ => k - (intOf x).toNat)
        case atStart => exact ⟨0, by omega, rfl, Gw.start _⟩
        case round =>
          obtain ⟨i, hi, rfl, hgw⟩ := hrel
          by_cases hik : i < k
          · obtain ⟨xd, R, cR, hD, hxcell, hxrow⟩ := (HX.out.below hgw.bel).row (k := i) hik
            subst hD
            rw [gr_rowsOf _ hik] at hxcell hxrow
            have el : ((List.range k).map (S i)).length = k := by simp
            rw [el] at hxcell hxrow
            have bd : Below wr.heap.size wr wr.drew := ⟨rfl, rfl, rfl, Nat.le_refl _, fun _ _ => rfl⟩
            have hc := (HC.out.below hgw.bel).below bd
            have c0 := hc.c0
            have c1 := hc.c1
            have hsm := sum_R hc.td (hxrow.below bd) (((HM.out.below hgw.bel).take (k := k) HLE.out.2.2.2.1).below bd) (fun r hr => HN.out r (List.mem_of_mem_take hr))
            rw [docSum_ok (by rw [el, List.length_take]; have := HLE.out; omega) (alike_take HAL.out)] at hsm
            obtain ⟨A0, cap0, rfl⟩ := hgw.form
            have HG := Lib.hid hgw
            have l1 : (0 : Int) ≤ (i : Int) := by omega
            have l2 : (i : Int) < (k : Int) := by omega
            have s3 : (k : Int) ≤ (c' : Int) := by have := HLE.out; omega
            have hkc' : k ≤ c' := HLE.out.2.2.2.2
            clear hgw hc hxrow el
            go_wp2
            refine start_ (n := 16) (S := fun w' => w'.cell? ⟨gc, 0, none⟩ = some (.pointer (some ⟨gt, 0, none⟩)) ∧ w'.cell? ⟨gc, 1, none⟩ = some (.int .i64 (k : Int))) (ds := [14]) #[false, false, false, false, false, false, false, false, false, false, false, false, false, false, false, false] (by kernel_rfl) rfl rfl ⟨c0, c1⟩ (fun hHeld => ?_)
            refine pure_ (i := 0) (N := some 67) (v := ?_) (a' := ?_) #[true, false, false, false, false, false, false, false, false, false, false, false, false, false, false, false] rfl rfl (by kernel_rfl) (fun _ _ _ h => h) (Or.inl ⟨by rfl, ?_⟩) ?_ ?_
            rotate_left
            · intro w'
              go_simp
              with_reducible rfl
            rotate_left
            · simp only [Act.put, List.setIfInBounds_toArray, List.set_cons_zero, List.set_cons_succ, i64_w, i32_w]
              rfl
            refine pure_ (i := 1) (N := some 68) (v := ?_) (a' := ?_) #[true, true, false, false, false, false, false, false, false, false, false, false, false, false, false, false] rfl rfl (by kernel_rfl) (fun _ _ _ h => h) (Or.inl ⟨by rfl, ?_⟩) ?_ ?_
            rotate_left
            · intro w'
              go_simp
              with_reducible rfl
            rotate_left
            · simp only [Act.put, List.setIfInBounds_toArray, List.set_cons_zero, List.set_cons_succ, i64_w, i32_w]
              rfl
            refine pure_ (i := 2) (N := some 69) (v := ?_) (a' := ?_) #[true, true, true, false, false, false, false, false, false, false, false, false, false, false, false, false] rfl rfl (by kernel_rfl) (fun _ _ _ h => h) (Or.inl ⟨by rfl, ?_⟩) ?_ ?_
            rotate_left
            · intro w'
              go_simp
              with_reducible rfl
            rotate_left
            · simp only [Act.put, List.setIfInBounds_toArray, List.set_cons_zero, List.set_cons_succ, i64_w, i32_w]
              rfl
            refine pure_ (i := 3) (N := some 70) (v := ?_) (a' := ?_) #[true, true, true, true, false, false, false, false, false, false, false, false, false, false, false, false] rfl rfl (by kernel_rfl) (fun _ _ _ h => h) (Or.inl ⟨by rfl, ?_⟩) ?_ ?_
            rotate_left
            · intro w'
              go_simp
              with_reducible rfl
            rotate_left
            · simp only [Act.put, List.setIfInBounds_toArray, List.set_cons_zero, List.set_cons_succ, i64_w, i32_w]
              rfl
            refine pure_ (i := 5) (N := some 72) (v := ?_) (a' := ?_) #[true, true, true, true, false, true, false, false, false, false, false, false, false, false, false, false] rfl rfl (by kernel_rfl) (fun _ _ _ h => h) (Or.inl ⟨by rfl, ?_⟩) ?_ ?_
            rotate_left
            · intro w'
              go_simp
              with_reducible rfl
            rotate_left
            · simp only [Act.put, List.setIfInBounds_toArray, List.set_cons_zero, List.set_cons_succ, i64_w, i32_w]
              rfl
            refine pure_ (i := 6) (N := some 73) (v := ?_) (a' := ?_) #[true, true, true, true, false, true, true, false, false, false, false, false, false, false, false, false] rfl rfl (by kernel_rfl) (fun _ _ _ h => h) (Or.inl ⟨by rfl, ?_⟩) ?_ ?_
            rotate_left
            · intro w'
              go_simp
              with_reducible rfl
            rotate_left
            · simp only [Act.put, List.setIfInBounds_toArray, List.set_cons_zero, List.set_cons_succ, i64_w, i32_w]
              rfl
            refine pure_ (i := 7) (N := some 74) (v := ?_) (a' := ?_) #[true, true, true, true, false, true, true, true, false, false, false, false, false, false, false, false] rfl rfl (by kernel_rfl) (fun _ _ _ h => h) (Or.inl ⟨by rfl, ?_⟩) ?_ ?_
            rotate_left
            · intro w'
              go_simp
              with_reducible rfl
            rotate_left
            · simp only [Act.put, List.setIfInBounds_toArray, List.set_cons_zero, List.set_cons_succ, i64_w, i32_w]
              rfl
            refine pure_ (i := 8) (N := some 75) (v := ?_) (a' := ?_) #[true, true, true, true, false, true, true, true, true, false, false, false, false, false, false, false] rfl rfl (by kernel_rfl) (fun _ _ _ h => h) (Or.inl ⟨by rfl, ?_⟩) ?_ ?_
            rotate_left
            · intro w'
              go_simp
              with_reducible rfl
            rotate_left
            · simp only [Act.put, List.setIfInBounds_toArray, List.set_cons_zero, List.set_cons_succ, i64_w, i32_w]
              rfl
            refine pure_ (i := 9) (N := some 76) (v := ?_) (a' := ?_) #[true, true, true, true, false, true, true, true, true, true, false, false, false, false, false, false] rfl rfl (by kernel_rfl) (fun _ _ _ h => h) (Or.inl ⟨by rfl, ?_⟩) ?_ ?_
            rotate_left
            · intro w'
              go_simp
              with_reducible rfl
            rotate_left
            · simp only [Act.put, List.setIfInBounds_toArray, List.set_cons_zero, List.set_cons_succ, i64_w, i32_w]
              rfl
            refine take_ (i := 4) (N := some 71) (v := ?_) (a' := ?_) #[true, true, true, true, true, true, true, true, true, true, false, false, false, false, false, false] rfl rfl (by kernel_rfl) (fun _ _ _ h => h) (Or.inl ⟨by rfl, ?_⟩) hHeld ?_ ?_
            rotate_left
            · rintro w' ⟨s0, s1⟩
              go_simp
              with_reducible rfl
            rotate_left
            · simp only [Act.put, List.setIfInBounds_toArray, List.set_cons_zero, List.set_cons_succ, i64_w, i32_w]
              rfl
            refine take_ (i := 10) (N := some 77) (v := ?_) (a' := ?_) #[true, true, true, true, true, true, true, true, true, true, true, false, false, false, false, false] rfl rfl (by kernel_rfl) (fun _ _ _ h => h) (Or.inl ⟨by rfl, ?_⟩) hHeld ?_ ?_
            rotate_left
            · rintro w' ⟨s0, s1⟩
              go_simp
              with_reducible rfl
            rotate_left
            · simp only [Act.put, List.setIfInBounds_toArray, List.set_cons_zero, List.set_cons_succ, i64_w, i32_w]
              rfl
            refine pure_ (i := 11) (N := some 78) (v := ?_) (a' := ?_) #[true, true, true, true, true, true, true, true, true, true, true, true, false, false, false, false] rfl rfl (by kernel_rfl) (fun _ _ _ h => h) (Or.inl ⟨by rfl, ?_⟩) ?_ ?_
            rotate_left
            · intro w'
              go_simp
              with_reducible rfl
            rotate_left
            · simp only [Act.put, List.setIfInBounds_toArray, List.set_cons_zero, List.set_cons_succ, i64_w, i32_w]
              rfl
            refine one_ (i := 12) (N := some 79) #[true, true, true, true, true, true, true, true, true, true, true, true, true, false, false, false] rfl rfl (by kernel_rfl) (by decide) (fun K hK => ?_)
            refine goes_ Try.func65 (by kernel_rfl) rfl #[.agg #[.pointer (some ⟨gt, 0, none⟩)], .slice R k cR, .slice (some pd) k c'] (by rfl) rfl rfl (by simp only [List.map_toArray, List.map_cons, List.map_nil]; rfl) ?_
            with_reducible refine (hsm).mono ?_
            rintro e w6 ⟨D, s, d, rfl, hrs, hfr, hb6⟩
            refine ⟨_, rfl, ?_⟩
            have f1 := pw_cell_below hb6 c0
            have f2 := pw_cell_below hb6 c1
            obtain ⟨A2', cap2', w8, hr, hgw2⟩ := HG.out.step (bthen bd hb6) hrs (HG.out.fresh (fun a ha => by have := hfr a ha; simpa using this)) (by omega) 36
            have g1 := pw_cell_below ((Below.refl _ _).alloc (Nat.le_refl _) _ : Below w6.heap.size w6 (w6.alloc (.cells #[.slice D s d] 35))) f1
            have g2 := pw_cell_below ((Below.refl _ _).alloc (Nat.le_refl _) _ : Below w6.heap.size w6 (w6.alloc (.cells #[.slice D s d] 35))) f2
            have HG3 := Lib.hid hgw2
            clear hrs hfr hgw2
            refine hK.out _ _ ⟨f1, f2⟩ (fun hHeld => ?_)
            clear hK K
            refine norm_ (a' := ?_) ?_ ?_
            rotate_left
            · show Act.put _ (some 79) _ = _
              simp only [Act.put, List.setIfInBounds_toArray, List.set_cons_zero, List.set_cons_succ, i64_w, i32_w]
              rfl
            refine one_ (i := 13) (N := some 80) #[true, true, true, true, true, true, true, true, true, true, true, true, true, true, false, false] rfl rfl (by kernel_rfl) (by decide) (fun K hK => ?_)
            refine value_ (w1 := ?_) (v := ?_) (by rfl) rfl ?_ ?_
            rotate_left 2
            · go_simp
              constructor
              · rfl
              · rfl
            refine hK.out _ _ ⟨g1, g2⟩ (fun hHeld => ?_)
            clear hK K
            refine norm_ (a' := ?_) ?_ ?_
            rotate_left
            · show Act.put _ (some 80) _ = _
              simp only [Act.put, List.setIfInBounds_toArray, List.set_cons_zero, List.set_cons_succ, i64_w, i32_w]
              rfl
            refine last_ (i := 14) (N := some 81) #[true, true, true, true, true, true, true, true, true, true, true, true, true, true, true, false] rfl rfl (by kernel_rfl) (by decide) (fun K hK => ?_)
            refine value_ (w1 := ?_) (v := ?_) (by rfl) rfl ?_ ?_
            rotate_left 2
            · rw [exec_append rfl (by rfl) (by rfl) hr]
            refine hK.out _ _ ?_
            clear hK K
            refine norm_ (a' := ?_) ?_ ?_
            rotate_left
            · show Act.put _ (some 81) _ = _
              simp only [Act.put, List.setIfInBounds_toArray, List.set_cons_zero, List.set_cons_succ, i64_w, i32_w]
              rfl
            refine pure_ (i := 15) (N := some 14) (v := ?_) (a' := ?_) #[true, true, true, true, true, true, true, true, true, true, true, true, true, true, true, true] rfl rfl (by kernel_rfl) (fun _ _ _ h => h) (Or.inl ⟨by rfl, ?_⟩) ?_ ?_
            rotate_left
            · intro w'
              go_simp
              with_reducible rfl
            rotate_left
            · simp only [Act.put, List.setIfInBounds_toArray, List.set_cons_zero, List.set_cons_succ, i64_w, i32_w]
              rfl
            refine done_ (by kernel_rfl) ?_
            rw [← decB_succ] at HG3
            go_wp2_with fail
            exact ⟨⟨i + 1, by omega, by go_num, HG3.out⟩, by simp [intOf]; omega⟩
          · obtain rfl : k = i := by omega
            obtain ⟨A0, cap0, rfl⟩ := hgw.form
            have HG := Lib.hid hgw
            clear hgw
            go_wp2_with fail
            go_ret2
            exact ⟨A0, k, cap0, _, 0, rfl, .inr ⟨HZZ.out.symm, rfl, S, HS1.out, HS2.out, rfl⟩, HG.out.rd (by omega), bthen HB.out HG.out.bel⟩
  · have t1 : (z != 0) = true := by simp [hz0]
    have HZ0 := Lib.hid hz0
    clear hz0
    go_wp2_with fail
    go_ret2
    exact ⟨none, 0, 0, [], z, rfl, .inl ⟨by rw [← HZZ.out]; exact HZ0.out, rfl, HZZ.out⟩, RD.nil _, HB.out⟩
end Go.Proofs.Ytoijjlpkoniipaa
