/- The law DiskActs, whatever comes in: the walk. -/
import Derived.Test.YtomihbanpjedeaaDiskAll
namespace Go.Proofs.Ytomihbanpjedeaa
open Go.RowKit Go.Proofs.YtomihbanpjedeaaW.PrintLast
set_option linter.unusedSimpArgs false
/-- A disk and the document's, apart, in one state. -/
structure Duo (w0 w : World) (d x n : Nat) (s : St) (F1 F R : Nat → Prop) : Prop where
  a : Dz w0 w F1 d n s
  c : Rd w0 w R F x n s
  d1x : ∀ i, F1 i → ¬ F i ∧ ¬ R i
theorem Duo.below {w0 w w' : World} {d x n : Nat} {s : St} {F1 F R : Nat → Prop} (h : Duo w0 w d x n s F1 F R) (hb : Below w.heap.size w w') : Duo w0 w' d x n s F1 F R := ⟨h.a.below hb, h.c.below hb, h.d1x⟩
theorem acts_A {w3 W6 wa : World} {d x n : Nat} {s s' : St} {F1 F1' F R : Nat → Prop} (h : Duo w3 W6 d x n s F1 F R) (hdk : Dk wa F1' d n s') (hc : Chg F1 W6.drew wa) (he : Ext F1 F1' W6.drew wa) : Dz w3 wa F1' d n s' ∧ Rd w3 wa R F x n s ∧ (∀ i, F1' i → ¬ F i ∧ ¬ R i) := by
  have hc' : Chg F1 W6 wa := ⟨hc.os, hc.tape, hc.output, hc.size, hc.block⟩
  have he' : Ext F1 F1' W6 wa := he
  have h0 : ∀ i, F1 i → w3.heap.size ≤ i := fun i hi => (h.a.inn i hi).1
  refine ⟨h.a.step hdk hc' he', h.c.chg hc' (fun i hi e => (h.d1x i e).2 hi) (fun i hi e => (h.d1x i e).1 hi) h0, fun i hi => ?_⟩
  rcases he' i hi with e | e
  · exact h.d1x i e
  · exact ⟨fun q => by have := (h.c.finn i q).2; omega, fun q => by have := (h.c.rinn i q).2.2; omega⟩
theorem acts_B {w3 wa wb : World} {d x n : Nat} {s s' : St} {F1 F F' R R' : Nat → Prop} (ha : Dz w3 wa F1 d n s') (hr0 : Rd w3 wa R F x n s) (hd : ∀ i, F1 i → ¬ F i ∧ ¬ R i) (hrd : Rd w3 wb R' F' x n s') (hc : Chg F wa wb) (he : Ext F F' wa wb) (hr : Ext R R' wa wb) : Duo w3 wb d x n s' F1 F' R' := by
  refine ⟨ha.chg hc (fun i hi => (hd i hi).1) (fun i hi => (hr0.finn i hi).1), hrd, fun i hi => ⟨fun e => ?_, fun e => ?_⟩⟩
  · rcases he i e with e | e
    · exact (hd i hi).1 e
    · have := (ha.inn i hi).2; omega
  · rcases hr i e with e | e
    · exact (hd i hi).2 e
    · have := (ha.inn i hi).2; omega
theorem acts_keep {W6 wa : World} {F1 : Nat → Prop} {g : Nat} {o : Obj} (hc : Chg F1 W6.drew wa) (hg : ¬ F1 g) (hl : g < W6.heap.size) (h : W6.heap[g]? = some o) : wa.heap[g]? = some o := (hc.block g hl hg).trans h
theorem load_blk {w : World} {g : Nat} {a : Ac} (h : w.heap[g]? = some (.cells a.cells.toArray 43)) : (loadVar 43 ⟨g, 0, none⟩).run Try.prog w = .ok a.val w :=
  load_act fun j u hj => by rw [Addr.add_lit, Nat.zero_add, cell_of_row _ _ j _ _ _ h]; simpa using hj
/-- Behind here only operations of ds are left: what is shown may turn. -/
theorem reS {P : Program} {ops : Array Oper} {Q : Exit → Act → World → Prop} {md : Region.Mode} {S1 S2 : World → Prop} {ds1 ds2 : List Nat} : ∀ (fuel : Nat) (l : Array Bool) (a : Act) (w : World), (∀ i, i < ops.size → l.getD i true = false → i ∈ ds1) → wpAnyLast P md ops Q S2 ds2 fuel l a w → wpAnyLast P md ops Q S1 ds1 fuel l a w
  | 0, _, _, _, _, h => h
  | fuel + 1, l, a, w, hall, h => by
    refine ⟨h.1, fun i hi => wpOp_mono (fun a' w' h' => ⟨fun hn => ?_, reS fuel _ a' w' (fun j hj hl => hall j hj ?_) h'.2⟩) (h.2 i hi)⟩
    · obtain ⟨hun, oi, hoi, _⟩ := mem_ready.1 hi
      exact absurd (hall i (Array.getElem?_eq_some_iff.1 hoi).1 hun) hn
    · by_cases hij : i = j
      · subst hij
        rcases Nat.lt_or_ge i l.size with hlt | hge
        · simp [hlt] at hl
        · simp [Array.getElem?_eq_none hge] at hl
      · rwa [getD_set_ne true hij] at hl
theorem act_len (s : St) (n : Nat) (kind a : Int) (ks : List Value) (p : Pl) : (s.act n kind a ks p).pn.length ≤ s.pn.length + 1 := by
  unfold St.act
  split
  · unfold St.write
    split
    · omega
    · split
      · omega
      · split
        · omega
        · split
          · rw [St.burnt_pn]; omega
          · show (s.pn ++ _).length ≤ _; simp
  · split
    · unfold St.sync
      split
      · omega
      · split
        · rw [St.burnt_pn]; omega
        · simp
    · split
      · unfold St.fused; split <;> simp
      · split
        · show ([] : List (Nat × List Value)).length ≤ _; simp
        · omega
set_option maxHeartbeats 4000000 in
set_option maxRecDepth 100000 in
theorem DiskActs_go (z : Int) (A : Option Addr) (cA : Nat) (L : List Ac) (w : World) (hL : Acts w A L) (hz1 : -9223372036854775808 ≤ z) (hz2 : z ≤ 9223372036854775807) :
    Calls Try.prog 7 #[.int .i64 z, .slice A L.length cA] w fun e w' => e = .returned (.bool true) ∧ Below w.heap.size w w' := by
  have hlo := long_calls A cA L
  obtain ⟨m, hm⟩ : ∃ m, m = L.length := ⟨_, rfl⟩
  have Hm := Lib.hid hm
  rw [← hm]
  rw [← hm] at hlo
  clear hm
  have HL := Lib.hid hL
  clear hL
  go_enter Try.func7, Try.ntmps7
  go_wp2_with fail
  refine (disk_wakes _).mono ?_
  rintro e w1 ⟨rfl, hb1⟩
  have hL1 := HL.out.below hb1
  have HL1 := Lib.hid hL1
  have q1 := hlo w1 hL1
  clear hlo hL1 HL
  go_wp2_with fail
  refine q1.mono ?_
  clear q1
  rintro e w3 ⟨b, rfl, rfl, hbL⟩
  cases b with
  | true =>
    go_wp2_with fail
    go_ret
    exact ⟨rfl, hb1⟩
  | false =>
    have hb5 := hbL rfl
    have hm1 : m ≤ 100 := by have := hb5.1; have := Hm.out; omega
    have hlens := Lib.hid hb5.2
    clear hb5 hbL
    by_cases hz : 20 < z
    · have t0 : decide (z > 20) = true := by simp; omega
      clear hz
      go_wp2_with fail
      go_ret
      exact ⟨rfl, hb1⟩
    · have t0 : decide (z > 20) = false := by simp; omega
      obtain ⟨n, hn⟩ : ∃ n : Nat, max 0 (min z 2048) = (n : Int) := ⟨(max 0 (min z 2048)).toNat, by omega⟩
      have hn20 : n ≤ 20 := by omega
      have HN := Lib.hid hn
      clear hz hn
      go_wp2_with fail
      refine (disk_new_calls z n (by omega) HN.out w3).mono ?_
      rintro e w4 ⟨d, G1, rfl, hD1, hb4, hF1⟩
      have hz1' : Dz w3 w4 G1 d n (St.new n) := ⟨hD1, hb4, hF1⟩
      have HZ1 := Lib.hid hz1'
      clear hD1 hb4 hF1 hz1'
      go_wp2_with fail
      refine (ref_new z n (by omega) HN.out w4).mono ?_
      rintro e w6 ⟨x, R, F, rfl, hrd, hb6⟩
      have hrd3 : Rd w3 w6 R F x n (St.new n) := by
        obtain ⟨A, cS, P, cp, ps, h1, h2, h3⟩ := hrd
        have hl0 : ps = [] := by have := h2.hpn; cases ps with
          | nil => rfl
          | cons a l => simp [St.new, pnOf] at this
        subst hl0
        have hs35 := HZ1.out.bel.size
        exact ⟨A, cS, P, cp, [], h1, ⟨h2.sl, h2.own, h2.hpn, h2.hnw, (fun a ha => by cases ha), h2.fx, h2.fP, fun i hi => ⟨by have := (h2.finn i hi).1; omega, (h2.finn i hi).2⟩, fun i hi => ⟨(h2.rinn i hi).1, by have := (h2.rinn i hi).2.1; omega, (h2.rinn i hi).2.2⟩, HZ1.out.bel.trans (hb6.mono hs35)⟩, h3⟩
      have hlow : ∀ i, F i ∨ R i → w4.heap.size ≤ i := fun i hi => hi.elim (fun q => (hrd.finn i q).1) (fun q => (hrd.rinn i q).2.1)
      have hT : Duo w3 w6 d x n (St.new n) G1 F R :=
        ⟨HZ1.out.below hb6, hrd3, fun i hi => ⟨fun q => by have := (HZ1.out.inn i hi).2; have := hlow i (.inl q); omega, fun q => by have := (HZ1.out.inn i hi).2; have := hlow i (.inr q); omega⟩⟩
      have HT0 := Lib.hid hT
      clear hrd hb6 hrd3 hlow hT
      go_wp2_with fail
      go_loopw [24] (fun i wr => ∃ k : Nat, k ≤ m ∧ i = .int .i64 k ∧ ∃ F1 F R s, Duo w3 wr d x n s F1 F R ∧ s.pn.length ≤ k) (fun i _ => m - (intOf i).toNat)
      case atStart => exact ⟨0, by omega, rfl, _, _, _, _, HT0.out, Nat.le_refl _⟩
      case round =>
        obtain ⟨k, hk, rfl, F1, F, R, s, hT, hlen⟩ := hrel
        by_cases hlt : k < m
        · obtain ⟨a, rfl, hok, hld⟩ := acts_get HL1.out hT.a.bel (k := k) (by rw [← Hm.out]; exact hlt)
          have hk200 : (L[k]'(by rw [← Hm.out]; exact hlt)).ks.length ≤ 200 := hlens.out _ (List.getElem_mem _)
          generalize L[k]'(by rw [← Hm.out]; exact hlt) = ac at hok hld hk200
          have hTw := hT
          obtain ⟨W1, hW1⟩ : ∃ W1, W1 = wr.alloc (.cells ac.cells.toArray 43) := ⟨_, rfl⟩
          obtain ⟨W2, hW2⟩ : ∃ W2, W2 = W1.alloc (.cells ac.cells.toArray 43) := ⟨_, rfl⟩
          have hst := store_act wr ac
          have hld2 := load_act_new wr ac
          rw [← hW1] at hst hld2
          have hst2 := store_act W1 ac
          rw [← hW2] at hst2
          have s1 : W1.heap.size = wr.heap.size + 1 := by rw [hW1]; simp
          have s2 : W2.heap.size = wr.heap.size + 2 := by rw [hW2]; simp [s1]
          have b1 : Below wr.heap.size wr W1 := by rw [hW1]; exact (Below.refl _ _).alloc (Nat.le_refl _) _
          have b2 : Below wr.heap.size wr W2 := by rw [hW2]; exact b1.alloc b1.size _
          have n1 : W2.heap[wr.heap.size]? = some (.cells ac.cells.toArray 43) := by rw [hW2]; exact (Below.heap_alloc W1 _ _ (by omega)).trans (by rw [hW1]; exact heap_alloc_new wr _)
          have n2 : W2.heap[W1.heap.size]? = some (.cells ac.cells.toArray 43) := by rw [hW2]; exact heap_alloc_new W1 _
          have b3 : Below wr.heap.size wr (W2.alloc (.cells #[] 5)) := b2.alloc b2.size _
          have bb3 : Below W2.heap.size W2 (W2.alloc (.cells #[] 5)) := (Below.refl _ _).alloc (Nat.le_refl _) _
          have n1' := (bb3.block _ (by omega)).trans n1
          have n2' := (bb3.block _ (by omega)).trans n2
          have e2 : (W2.alloc (.cells #[] 5)).cell? ⟨wr.heap.size, 2, none⟩ = some (.slice ac.A ac.ks.length ac.c) := by rw [cell_of_row _ _ 2 _ _ _ n1']; rfl
          have o0 : (W2.alloc (.cells #[] 5)).ownsRow W2.heap.size 5 1 (.slice (some ⟨W2.heap.size, 0, none⟩) 0 0) 0 [] := World.ownsRow_lit W2 #[] (e := 5) (size := 1) 0 (Nat.le_refl _) (by decide) (by simp)
          have hbts0 := hok.bts
          have hbw := hT.a.bel
          obtain ⟨v5, W5, happ, o5, g5⟩ := append_bytes o0 bb3.size (A := ac.A) (m := ac.ks.length) (c := ac.c) (news := ac.ks) rfl hok.bts.1 (fun b hb j u hj => by
            have hpos : 0 < ac.ks.length := by have := (List.getElem?_eq_some_iff.1 hj).1; omega
            obtain ⟨b', e', hc'⟩ := hok.bts.2 hpos
            rw [hb] at e'
            cases e'
            exact pw_cell_below bb3 (pw_cell_below b2 (pw_cell_below hbw (hc' j u hj)))) (fun h => ⟨by
              by_cases hp : 0 < ac.ks.length
              · obtain ⟨b', e', _⟩ := hok.bts.2 hp
                rw [h] at e'; cases e'
              · omega, hok.nil h⟩) (by omega) 41
          rw [Nat.zero_add, List.nil_append] at o5
          obtain ⟨A5, c5, rfl⟩ : ∃ A5 c5, v5 = .slice A5 ac.ks.length c5 := by
            rcases o5.2 with ⟨e, h0⟩ | ⟨g, cap, cur, e, _⟩
            · exact ⟨none, 0, by rw [e, h0]⟩
            · exact ⟨_, _, e⟩
          have b5 : Below wr.heap.size wr W5 := b3.grown g5 b3.size (fun g hg => by
            have : W2.heap.size = g := by simpa [Value.ownBlock] using hg
            omega)
          have k5 : ∀ i, i < W2.heap.size → W5.heap[i]? = W2.heap[i]? := fun i hi => (g5.block i (by have := bb3.size; omega) (fun e => by
            have : i = W2.heap.size := by simpa [Value.ownBlock] using e
            omega)).trans (bb3.block i hi)
          have m1 := (k5 _ (by omega)).trans n1
          have m2 := (k5 _ (by omega)).trans n2
          have hcell5 : W5.cell? ⟨W1.heap.size, 2, none⟩ = some (.slice ac.A ac.ks.length ac.c) := by rw [cell_of_row _ _ 2 _ _ _ m2]; rfl
          have hfro5 : W5.frozen? ⟨W1.heap.size, 2, none⟩ = false := frozen_of_row _ _ 2 _ _ m2
          have b6 : Below wr.heap.size wr (W5.setCell ⟨W1.heap.size, 2, none⟩ (.slice A5 ac.ks.length c5)) := Below.setCell b5 (by show wr.heap.size ≤ W1.heap.size; omega) _
          have r1 : (W5.setCell ⟨W1.heap.size, 2, none⟩ (.slice A5 ac.ks.length c5)).heap[wr.heap.size]? = some (.cells ac.cells.toArray 43) := (Below.heap_setCell _ _ _ _ (by show wr.heap.size ≠ W1.heap.size; omega)).trans m1
          have r2 : (W5.setCell ⟨W1.heap.size, 2, none⟩ (.slice A5 ac.ks.length c5)).heap[W1.heap.size]? = some (.cells ({ ac with A := A5, c := c5 } : Ac).cells.toArray 43) := heap_setCell_same W5 _ 2 _ _ _ m2
          have sz6 : W2.heap.size < (W5.setCell ⟨W1.heap.size, 2, none⟩ (.slice A5 ac.ks.length c5)).heap.size := by have := g5.size; simp at this ⊢; omega
          have own6 : (W5.setCell ⟨W1.heap.size, 2, none⟩ (.slice A5 ac.ks.length c5)).ownsRow W2.heap.size 5 1 (.slice A5 ac.ks.length c5) ac.ks.length ac.ks := own_move o5 (fun g hg => Below.heap_setCell _ _ _ g (by
            obtain ⟨cu, hcu⟩ := own_type o5 hg
            exact type_ne hcu m2 (by decide)))
          have bt6 : 0 < ac.ks.length → ∃ g, A5 = some ⟨g, 0, none⟩ ∧ W2.heap.size ≤ g ∧ g < (W5.setCell ⟨W1.heap.size, 2, none⟩ (.slice A5 ac.ks.length c5)).heap.size ∧ Bsl (W5.setCell ⟨W1.heap.size, 2, none⟩ (.slice A5 ac.ks.length c5)) ⟨g, 0, none⟩ ac.ks := fun hp => by
            obtain ⟨g, rfl⟩ : ∃ g, A5 = some ⟨g, 0, none⟩ := by
              rcases own6.2 with ⟨e, h0⟩ | ⟨g, cap, cur, e, _⟩
              · omega
              · simp only [Value.slice.injEq] at e; exact ⟨g, e.1⟩
            have := own6.lt g rfl
            exact ⟨g, rfl, this.1, this.2, hok.bts.1, own6.cells rfl⟩
          have hT6 := hT.below b6
          obtain ⟨W6, hW6⟩ : ∃ W6, W6 = W5.setCell ⟨W1.heap.size, 2, none⟩ (.slice A5 ac.ks.length c5) := ⟨_, rfl⟩
          rw [← hW6] at b6 r1 r2 sz6 bt6 hT6
          obtain ⟨g8, hg8⟩ : ∃ g8, g8 = wr.heap.size := ⟨_, rfl⟩
          obtain ⟨g9, hg9⟩ : ∃ g9, g9 = W1.heap.size := ⟨_, rfl⟩
          have hR1 := Lib.hid r1
          have hR2 := Lib.hid r2
          have hS1 := Lib.hid s1
          have hS2 := Lib.hid s2
          have hS6 := Lib.hid sz6
          have hBT := Lib.hid bt6
          have HT := Lib.hid hT
          have HT6 := Lib.hid hT6
          have HLEN := Lib.hid hlen
          have HOK := Lib.hid hok
          have HW6 := Lib.hid hW6
          have HB6 := Lib.hid b6
          have HK200 := Lib.hid hk200
          clear hT hTw hlen hW1 hW2 s1 s2 b1 b2 n1 n2 b3 bb3 n1' n2' o0 hbts0 hbw o5 g5 b5 k5 m1 m2 b6 r1 r2 sz6 own6 bt6 hT6 hW6 hok hg8 hg9 hk200
          have i1 : (0 : Int) ≤ (k : Int) := by omega
          have i2 : (k : Int) < (m : Int) := by omega
          go_wp2_with (first | (refine wpList_store_run rfl 43 _ _ rfl rfl _ rfl _ rfl _ hst ?_) | (refine wpList_load_run rfl 43 _ rfl _ rfl _ hld ?_) | (refine wpList_load_run rfl 43 _ rfl _ rfl _ hld2 ?_) | (refine wpList_store_run rfl 43 _ _ rfl rfl _ rfl _ rfl _ hst2 ?_) | (at_builtin; refine Lib.wpList_append_run _ rfl _ _ _ _ rfl _ _ rfl rfl _ _ happ ?_))
          rw [← HW6.out]
          have hF1 : ∀ i, F1 i → i < wr.heap.size := fun i hi => (HT.out.a.inn i hi).2
          have hF : ∀ i, F i → i < wr.heap.size := fun i hi => (HT.out.c.finn i hi).2
          have HF1 := Lib.hid hF1
          have HF := Lib.hid hF
          have z1 := hS1.out
          have z2 := hS2.out
          have z6 := hS6.out
          have HNA : Hid (¬ F1 wr.heap.size ∧ wr.heap.size < W6.heap.size) := Lib.hid ⟨fun q => by have := hF1 _ q; omega, by omega⟩
          have HNB : Hid (¬ F1 W1.heap.size ∧ W1.heap.size < W6.heap.size) := Lib.hid ⟨fun q => by have := hF1 _ q; omega, by omega⟩
          have HNC : Hid (¬ F wr.heap.size ∧ ¬ F W1.heap.size) := Lib.hid ⟨fun q => by have := hF _ q; omega, fun q => by have := hF _ q; omega⟩
          have bd6 : Below W6.heap.size W6 W6.drew := Below.drw (Below.refl _ _)
          have hpn : s.pn.length ≤ 1000000 := by have := HLEN.out; omega
          have hbF : 0 < ac.ks.length → ∃ B, A5 = some B ∧ Bsl W6.drew B ac.ks ∧ ¬ F1 B.block := fun hp => by
            obtain ⟨g, e, h1, h2, h3⟩ := hBT.out hp
            exact ⟨_, e, h3, fun q => by have : g < wr.heap.size := hF1 _ q; omega⟩
          have hdo := do_calls F1 d n s ac.kind ac.at_ A5 c5 ac.ks ac.p W6.drew (HT6.out.a.dk.below bd6) (by omega) hbF hpn ⟨HOK.out.at1, HOK.out.at2⟩ HOK.out.keep
          obtain ⟨ownv, hov⟩ : ∃ ownv, ownv = ({ ac with A := A5, c := c5 } : Ac).val := ⟨_, rfl⟩
          obtain ⟨av, hav0⟩ : ∃ av, av = ac.val := ⟨_, rfl⟩
          obtain ⟨s', hs'⟩ : ∃ s', s' = s.act n ac.kind ac.at_ ac.ks ac.p := ⟨_, rfl⟩
          obtain ⟨ev, hev⟩ : ∃ ev, ev = s.actE n ac.kind ac.at_ ac.ks.length := ⟨_, rfl⟩
          rw [show actV ac.kind ac.at_ A5 ac.ks.length c5 ac.p = ownv from hov.symm, ← hs', ← hev] at hdo
          have hld9 := load_blk (w := W6.drew) hR2.out
          have hld8 := load_blk (w := W6.drew) hR1.out
          rw [← hov] at hld9
          rw [← hav0] at hld8
          have hl' : s'.pn.length ≤ k + 1 := by have := act_len s n ac.kind ac.at_ ac.ks ac.p; rw [← hs'] at this; have := HLEN.out; omega
          have HOV := Lib.hid hov
          have HAV := Lib.hid hav0
          have HSP := Lib.hid hs'
          have HEV := Lib.hid hev
          have HPN := Lib.hid hpn
          have HL' := Lib.hid hl'
          have tt : (ev != ev) = false := by simp
          clear hov hav0 hs' hev hpn hl' hbF bd6 z1 z2 z6 hF1 hF hst hld hld2 hst2 e2 happ hcell5 hfro5
          refine start_ (n := 41) (S := fun w' => (loadVar 43 ⟨W1.heap.size, 0, none⟩).run Try.prog w' = .ok ownv w' ∧ (loadVar 43 ⟨wr.heap.size, 0, none⟩).run Try.prog w' = .ok av w') (ds := [5, 6, 7, 8, 9, 10, 11, 12, 13, 14, 15, 16, 17, 18, 19, 20, 21, 22, 23, 24, 25, 26, 27, 28, 29, 30, 31, 32, 33, 34, 35, 36, 37, 38, 39, 40]) #[false, false, false, false, false, false, false, false, false, false, false, false, false, false, false, false, false, false, false, false, false, false, false, false, false, false, false, false, false, false, false, false, false, false, false, false, false, false, false, false, false] (by kernel_rfl) rfl rfl ⟨hld9, hld8⟩ (fun hHeld => ?_)
          refine pure_ (i := 0) (N := some 34) (v := ?_) (a' := ?_) #[true, false, false, false, false, false, false, false, false, false, false, false, false, false, false, false, false, false, false, false, false, false, false, false, false, false, false, false, false, false, false, false, false, false, false, false, false, false, false, false, false] rfl rfl (by kernel_rfl) (fun _ _ _ h => h) (Or.inl ⟨by rfl, ?_⟩) ?_ ?_
          rotate_left
          · intro w'
            go_simp
            with_reducible rfl
          rotate_left
          · simp only [Act.put, List.setIfInBounds_toArray, List.set_cons_zero, List.set_cons_succ, i64_w, i32_w]
            rfl
          refine pure_ (i := 3) (N := some 37) (v := ?_) (a' := ?_) #[true, false, false, true, false, false, false, false, false, false, false, false, false, false, false, false, false, false, false, false, false, false, false, false, false, false, false, false, false, false, false, false, false, false, false, false, false, false, false, false, false] rfl rfl (by kernel_rfl) (fun _ _ _ h => h) (Or.inl ⟨by rfl, ?_⟩) ?_ ?_
          rotate_left
          · intro w'
            go_simp
            with_reducible rfl
          rotate_left
          · simp only [Act.put, List.setIfInBounds_toArray, List.set_cons_zero, List.set_cons_succ, i64_w, i32_w]
            rfl
          refine take_ (i := 1) (N := some 35) (v := ?_) (a' := ?_) #[true, true, false, true, false, false, false, false, false, false, false, false, false, false, false, false, false, false, false, false, false, false, false, false, false, false, false, false, false, false, false, false, false, false, false, false, false, false, false, false, false] rfl rfl (by kernel_rfl) (fun _ _ _ h => h) (Or.inl ⟨by rfl, ?_⟩) hHeld ?_ ?_
          rotate_left
          · rintro w' ⟨s0, s1⟩
            rw [exec_load 43 _ rfl _ (by rfl) _ s0]
          rotate_left
          · simp only [Act.put, List.setIfInBounds_toArray, List.set_cons_zero, List.set_cons_succ, i64_w, i32_w]
            rfl
          refine take_ (i := 4) (N := some 38) (v := ?_) (a' := ?_) #[true, true, false, true, true, false, false, false, false, false, false, false, false, false, false, false, false, false, false, false, false, false, false, false, false, false, false, false, false, false, false, false, false, false, false, false, false, false, false, false, false] rfl rfl (by kernel_rfl) (fun _ _ _ h => h) (Or.inl ⟨by rfl, ?_⟩) hHeld ?_ ?_
          rotate_left
          · rintro w' ⟨s0, s1⟩
            rw [exec_load 43 _ rfl _ (by rfl) _ s1]
          rotate_left
          · simp only [Act.put, List.setIfInBounds_toArray, List.set_cons_zero, List.set_cons_succ, i64_w, i32_w]
            rfl
          refine one_ (i := 2) (N := some 36) #[true, true, true, true, true, false, false, false, false, false, false, false, false, false, false, false, false, false, false, false, false, false, false, false, false, false, false, false, false, false, false, false, false, false, false, false, false, false, false, false, false] rfl rfl (by kernel_rfl) (by decide) (fun K hK => ?_)
          refine goes_ Try.func18 (by kernel_rfl) rfl #[.pointer (some ⟨d, 0, none⟩), ownv] (by rfl) rfl rfl (by simp only [List.map_toArray, List.map_cons, List.map_nil]; rfl) ?_
          with_reducible refine (hdo).mono ?_
          rintro e wa ⟨F1', rfl, hdk1, hc1, he1⟩
          refine ⟨_, rfl, ?_⟩
          obtain ⟨hdzA, hrdA, hdisA⟩ := acts_A HT6.out hdk1 hc1 he1
          have hnA1 := acts_keep hc1 HNA.out.1 HNA.out.2 hR1.out
          have hnA2 := acts_keep hc1 HNB.out.1 HNB.out.2 hR2.out
          have f1 := load_blk (a := _) hnA2
          have f2 := load_blk (a := _) hnA1
          rw [← HOV.out] at f1
          rw [← HAV.out] at f2
          refine hK.out _ _ ⟨f1, f2⟩ (fun hHeld => ?_)
          clear hK K
          refine norm_ (a' := ?_) ?_ ?_
          rotate_left
          · show Act.put _ (some 36) _ = _
            simp only [Act.put, List.setIfInBounds_toArray, List.set_cons_zero, List.set_cons_succ, i64_w, i32_w]
            rfl
          refine last_ (i := 5) (N := some 39) #[true, true, true, true, true, true, false, false, false, false, false, false, false, false, false, false, false, false, false, false, false, false, false, false, false, false, false, false, false, false, false, false, false, false, false, false, false, false, false, false, false] rfl rfl (by kernel_rfl) (by decide) (fun K hK => ?_)
          have hdo2 := do_ref w3 wa R F x n s ac hrdA (by omega) HPN.out HOK.out
          rw [← HAV.out, ← HSP.out, ← HEV.out] at hdo2
          refine goes_ Try.func26 (by kernel_rfl) rfl #[.pointer (some ⟨x, 0, none⟩), av] (by rfl) rfl rfl (by simp only [List.map_toArray, List.map_cons, List.map_nil]; rfl) ?_
          with_reducible refine (hdo2).mono ?_
          rintro e wb ⟨R', F', rfl, hrd, hc2, he2, hr2⟩
          refine ⟨_, rfl, ?_⟩
          refine hK.out _ _ ?_
          clear hK K
          refine norm_ (a' := ?_) ?_ ?_
          rotate_left
          · show Act.put _ (some 39) _ = _
            simp only [Act.put, List.setIfInBounds_toArray, List.set_cons_zero, List.set_cons_succ, i64_w, i32_w]
            rfl
          clear hHeld hld9 hld8 hdo hdo2
          have hB := acts_B hdzA hrdA hdisA hrd hc2 he2 hr2
          obtain ⟨A0, cS0, P, cp, ps, hblk, hrk, hfb⟩ := id hB.c
          have hlen' : s'.pn.length = ps.length := by rw [hrk.hpn]; simp [pnOf]
          obtain ⟨mp, hmp⟩ : ∃ mp, mp = ps.length := ⟨_, rfl⟩
          obtain ⟨dn', hdn'⟩ : ∃ dn', dn' = s'.dn := ⟨_, rfl⟩
          rw [← hmp, ← hdn'] at hblk
          have hla1 := (Array.getElem?_eq_some_iff.1 hnA1).1
          have hla2 := (Array.getElem?_eq_some_iff.1 hnA2).1
          have hnB1 := (hc2.block _ hla1 HNC.out.1).trans hnA1
          have hnB2 := (hc2.block _ hla2 HNC.out.2).trans hnA2
          have d1 := hblk.c1
          have d2 := hblk.c3
          have d3 : wb.cell? ⟨W1.heap.size, 2, none⟩ = some (.slice A5 ac.ks.length c5) := by rw [cell_of_row _ _ 2 _ _ _ hnB2]; rfl
          have d4 : wb.cell? ⟨wr.heap.size, 2, none⟩ = some (.slice ac.A ac.ks.length ac.c) := by rw [cell_of_row _ _ 2 _ _ _ hnB1]; rfl
          have hstay0 : ∀ w', Below wb.heap.size wb w' → w'.cell? ⟨x, 1, none⟩ = some (.slice P mp cp) ∧ w'.cell? ⟨x, 3, none⟩ = some (.bool dn') ∧ w'.cell? ⟨W1.heap.size, 2, none⟩ = some (.slice A5 ac.ks.length c5) ∧ w'.cell? ⟨wr.heap.size, 2, none⟩ = some (.slice ac.A ac.ks.length ac.c) := fun w' h => ⟨pw_cell_below h d1, pw_cell_below h d2, pw_cell_below h d3, pw_cell_below h d4⟩
          have hHeld := hstay0 wb (Below.refl _ _)
          refine reS (S2 := fun w' => w'.cell? ⟨x, 1, none⟩ = some (.slice P mp cp) ∧ w'.cell? ⟨x, 3, none⟩ = some (.bool dn') ∧ w'.cell? ⟨W1.heap.size, 2, none⟩ = some (.slice A5 ac.ks.length c5) ∧ w'.cell? ⟨wr.heap.size, 2, none⟩ = some (.slice ac.A ac.ks.length ac.c)) (ds2 := []) _ _ _ _ (by decide) ?_
          have hstay := Lib.hid hstay0
          have hpn' : s'.pn.length ≤ 1000000 := by have := HL'.out; omega
          have hnow := now_rd hB.c (by omega) hpn'
          have hpend0 : ∀ w', Below wb.heap.size wb w' → Calls Try.prog 29 #[.pointer (some ⟨d, 0, none⟩)] w' fun e w'' => e = .returned (.int .i64 (mp : Int)) ∧ w'' = w' := fun w' h => by
            have := pending_calls F1' d n s' w' (hB.a.dk.below h)
            rwa [hlen', ← hmp] at this
          have hdown0 : ∀ w', Below wb.heap.size wb w' → Calls Try.prog 24 #[.pointer (some ⟨d, 0, none⟩)] w' fun e w'' => e = .returned (.bool dn') ∧ w'' = w' := fun w' h => by
            have := down_calls F1' d n s' w' (hB.a.dk.below h)
            rwa [← hdn'] at this
          have hbt1 : Bts wb A5 ac.ks := ⟨HOK.out.bts.1, fun hp => by
            obtain ⟨g, e, h1, h2, h3⟩ := hBT.out hp
            have z1 := hS1.out
            have z2 := hS2.out
            refine ⟨_, e, fun j u hj => ?_⟩
            have q1 := h3.2 j u hj
            have q2 : wa.cell? ((⟨g, 0, none⟩ : Addr).add j) = some u := (World.cell?_of_block (by rw [add_block]; exact hc1.block g h2 (fun q => by have := HF1.out _ q; omega))).trans q1
            exact (World.cell?_of_block (by rw [add_block]; exact hc2.block g (by have := hc1.size; have : W6.drew.heap.size = W6.heap.size := rfl; show g < _; omega) (fun q => by have := HF.out _ q; omega))).trans q2⟩
          have hbt2 : Bts wb ac.A ac.ks := HOK.out.bts.below hB.a.bel
          have hk2 := HK200.out
          have hsm0 : ∀ w', Below wb.heap.size wb w' → Calls Try.prog 22 #[.slice A5 ac.ks.length c5, .slice ac.A ac.ks.length ac.c] w' fun e w'' => e = .returned (.bool true) ∧ ∃ m, w'' = w'.drewN m := fun w' h =>
            same_bytes A5 ac.A ac.ks.length c5 ac.c ac.ks w' (hbt1.below h) (hbt2.below h) rfl (by omega)
          have hpend := Lib.hid hpend0
          have hdown := Lib.hid hdown0
          have hsm := Lib.hid hsm0
          have hdkB := Lib.hid hB.a.dk
          have HDUO := Lib.hid hB
          have tt2 : ((mp : Int) != (mp : Int)) = false := by simp
          have tt3 : (dn' != dn') = false := by simp
          clear hstay0 hpend0 hdown0 hsm0 hbt1 hbt2 hk2 d1 d2 d3 d4 hnB1 hnB2 hla1 hla2 hblk hrk hfb hlen' hmp hdn' hB hdzA hrdA hdisA hrd hc1 hc2 he1 he2 hr2 hdk1 hnA1 hnA2 f1 f2 hpn'
          refine pure_ (i := 6) (N := some 40) (v := ?_) (a' := ?_) #[true, true, true, true, true, true, true, false, false, false, false, false, false, false, false, false, false, false, false, false, false, false, false, false, false, false, false, false, false, false, false, false, false, false, false, false, false, false, false, false, false] rfl rfl (by kernel_rfl) (fun _ _ _ h => h) (Or.inl ⟨by rfl, ?_⟩) ?_ ?_
          rotate_left
          · intro w'
            go_simp
            with_reducible rfl
          rotate_left
          · simp only [Act.put, List.setIfInBounds_toArray, List.set_cons_zero, List.set_cons_succ, i64_w, i32_w]
            rfl
          refine pure_ (i := 7) (N := some 41) (v := ?_) (a' := ?_) #[true, true, true, true, true, true, true, true, false, false, false, false, false, false, false, false, false, false, false, false, false, false, false, false, false, false, false, false, false, false, false, false, false, false, false, false, false, false, false, false, false] rfl rfl (by kernel_rfl) (fun _ _ _ h => h) (Or.inl ⟨by rfl, ?_⟩) ?_ ?_
          rotate_left
          · intro w'
            go_simp
            with_reducible rfl
          rotate_left
          · simp only [Act.put, List.setIfInBounds_toArray, List.set_cons_zero, List.set_cons_succ, i64_w, i32_w]
            rfl
          refine pure_ (i := 8) (N := some 42) (v := ?_) (a' := ?_) #[true, true, true, true, true, true, true, true, true, false, false, false, false, false, false, false, false, false, false, false, false, false, false, false, false, false, false, false, false, false, false, false, false, false, false, false, false, false, false, false, false] rfl rfl (by kernel_rfl) (fun _ _ _ h => h) (Or.inl ⟨by rfl, ?_⟩) ?_ ?_
          rotate_left
          · intro w'
            go_simp
            with_reducible rfl
          rotate_left
          · simp only [Act.put, List.setIfInBounds_toArray, List.set_cons_zero, List.set_cons_succ, i64_w, i32_w]
            rfl
          refine pure_ (i := 9) (N := some 43) (v := ?_) (a' := ?_) #[true, true, true, true, true, true, true, true, true, true, false, false, false, false, false, false, false, false, false, false, false, false, false, false, false, false, false, false, false, false, false, false, false, false, false, false, false, false, false, false, false] rfl rfl (by kernel_rfl) (fun _ _ _ h => h) (Or.inl ⟨by rfl, ?_⟩) ?_ ?_
          rotate_left
          · intro w'
            go_simp
            with_reducible rfl
          rotate_left
          · simp only [Act.put, List.setIfInBounds_toArray, List.set_cons_zero, List.set_cons_succ, i64_w, i32_w]
            rfl
          refine one_ (i := 10) (N := some 44) #[true, true, true, true, true, true, true, true, true, true, true, false, false, false, false, false, false, false, false, false, false, false, false, false, false, false, false, false, false, false, false, false, false, false, false, false, false, false, false, false, false] rfl rfl (by kernel_rfl) (by decide) (fun K hK => ?_)
          refine goes_ Try.func27 (by kernel_rfl) rfl #[.pointer (some ⟨x, 0, none⟩)] (by rfl) rfl rfl (by simp only [List.map_toArray, List.map_cons, List.map_nil]; rfl) ?_
          with_reducible refine (hnow).mono ?_
          rintro e wc ⟨A9, c9, rfl, hrw9, hbc⟩
          refine ⟨_, rfl, ?_⟩
          obtain ⟨f1, f2, f3, f4⟩ := hstay.out wc hbc
          refine hK.out _ _ ⟨f1, f2, f3, f4⟩ (fun hHeld => ?_)
          clear hK K
          refine norm_ (a' := ?_) ?_ ?_
          rotate_left
          · show Act.put _ (some 44) _ = _
            simp only [Act.put, List.setIfInBounds_toArray, List.set_cons_zero, List.set_cons_succ, i64_w, i32_w]
            rfl
          refine one_ (i := 11) (N := some 45) #[true, true, true, true, true, true, true, true, true, true, true, true, false, false, false, false, false, false, false, false, false, false, false, false, false, false, false, false, false, false, false, false, false, false, false, false, false, false, false, false, false] rfl rfl (by kernel_rfl) (by decide) (fun K hK => ?_)
          refine goes_ Try.func28 (by kernel_rfl) rfl #[.pointer (some ⟨d, 0, none⟩), .slice A9 n c9] (by rfl) rfl rfl (by simp only [List.map_toArray, List.map_cons, List.map_nil]; rfl) ?_
          with_reducible refine ((law_same _ _ d n c9 A9 s' wc (hdkB.out.below hbc) hrw9 (by omega))).mono ?_
          rintro e wd ⟨rfl, hbd⟩
          refine ⟨_, rfl, ?_⟩
          have hbd' := hbc.trans (hbd.mono hbc.size)
          obtain ⟨f1, f2, f3, f4⟩ := hstay.out wd hbd'
          refine hK.out _ _ ⟨f1, f2, f3, f4⟩ (fun hHeld => ?_)
          clear hK K
          refine norm_ (a' := ?_) ?_ ?_
          rotate_left
          · show Act.put _ (some 45) _ = _
            simp only [Act.put, List.setIfInBounds_toArray, List.set_cons_zero, List.set_cons_succ, i64_w, i32_w]
            rfl
          refine pure_ (i := 12) (N := some 46) (v := ?_) (a' := ?_) #[true, true, true, true, true, true, true, true, true, true, true, true, true, false, false, false, false, false, false, false, false, false, false, false, false, false, false, false, false, false, false, false, false, false, false, false, false, false, false, false, false] rfl rfl (by kernel_rfl) (fun _ _ _ h => h) (Or.inl ⟨by rfl, ?_⟩) ?_ ?_
          rotate_left
          · intro w'
            go_simp
            with_reducible rfl
          rotate_left
          · simp only [Act.put, List.setIfInBounds_toArray, List.set_cons_zero, List.set_cons_succ, i64_w, i32_w]
            rfl
          refine pure_ (i := 13) (N := some 47) (v := ?_) (a' := ?_) #[true, true, true, true, true, true, true, true, true, true, true, true, true, true, false, false, false, false, false, false, false, false, false, false, false, false, false, false, false, false, false, false, false, false, false, false, false, false, false, false, false] rfl rfl (by kernel_rfl) (fun _ _ _ h => h) (Or.inl ⟨by rfl, ?_⟩) ?_ ?_
          rotate_left
          · intro w'
            go_simp
            with_reducible rfl
          rotate_left
          · simp only [Act.put, List.setIfInBounds_toArray, List.set_cons_zero, List.set_cons_succ, i64_w, i32_w]
            rfl
          refine pure_ (i := 14) (N := some 48) (v := ?_) (a' := ?_) #[true, true, true, true, true, true, true, true, true, true, true, true, true, true, true, false, false, false, false, false, false, false, false, false, false, false, false, false, false, false, false, false, false, false, false, false, false, false, false, false, false] rfl rfl (by kernel_rfl) (fun _ _ _ h => h) (Or.inl ⟨by rfl, ?_⟩) ?_ ?_
          rotate_left
          · intro w'
            go_simp
            with_reducible rfl
          rotate_left
          · simp only [Act.put, List.setIfInBounds_toArray, List.set_cons_zero, List.set_cons_succ, i64_w, i32_w]
            rfl
          refine pure_ (i := 15) (N := some 49) (v := ?_) (a' := ?_) #[true, true, true, true, true, true, true, true, true, true, true, true, true, true, true, true, false, false, false, false, false, false, false, false, false, false, false, false, false, false, false, false, false, false, false, false, false, false, false, false, false] rfl rfl (by kernel_rfl) (fun _ _ _ h => h) (Or.inl ⟨by rfl, ?_⟩) ?_ ?_
          rotate_left
          · intro w'
            go_simp
            with_reducible rfl
          rotate_left
          · simp only [Act.put, List.setIfInBounds_toArray, List.set_cons_zero, List.set_cons_succ, i64_w, i32_w]
            rfl
          refine pure_ (i := 17) (N := some 51) (v := ?_) (a' := ?_) #[true, true, true, true, true, true, true, true, true, true, true, true, true, true, true, true, false, true, false, false, false, false, false, false, false, false, false, false, false, false, false, false, false, false, false, false, false, false, false, false, false] rfl rfl (by kernel_rfl) (fun _ _ _ h => h) (Or.inl ⟨by rfl, ?_⟩) ?_ ?_
          rotate_left
          · intro w'
            go_simp
            with_reducible rfl
          rotate_left
          · simp only [Act.put, List.setIfInBounds_toArray, List.set_cons_zero, List.set_cons_succ, i64_w, i32_w]
            rfl
          refine pure_ (i := 18) (N := some 52) (v := ?_) (a' := ?_) #[true, true, true, true, true, true, true, true, true, true, true, true, true, true, true, true, false, true, true, false, false, false, false, false, false, false, false, false, false, false, false, false, false, false, false, false, false, false, false, false, false] rfl rfl (by kernel_rfl) (fun _ _ _ h => h) (Or.inl ⟨by rfl, ?_⟩) ?_ ?_
          rotate_left
          · intro w'
            go_simp
            with_reducible rfl
          rotate_left
          · simp only [Act.put, List.setIfInBounds_toArray, List.set_cons_zero, List.set_cons_succ, i64_w, i32_w]
            rfl
          refine pure_ (i := 19) (N := some 53) (v := ?_) (a' := ?_) #[true, true, true, true, true, true, true, true, true, true, true, true, true, true, true, true, false, true, true, true, false, false, false, false, false, false, false, false, false, false, false, false, false, false, false, false, false, false, false, false, false] rfl rfl (by kernel_rfl) (fun _ _ _ h => h) (Or.inl ⟨by rfl, ?_⟩) ?_ ?_
          rotate_left
          · intro w'
            go_simp
            with_reducible rfl
          rotate_left
          · simp only [Act.put, List.setIfInBounds_toArray, List.set_cons_zero, List.set_cons_succ, i64_w, i32_w]
            rfl
          refine take_ (i := 20) (N := some 54) (v := ?_) (a' := ?_) #[true, true, true, true, true, true, true, true, true, true, true, true, true, true, true, true, false, true, true, true, true, false, false, false, false, false, false, false, false, false, false, false, false, false, false, false, false, false, false, false, false] rfl rfl (by kernel_rfl) (fun _ _ _ h => h) (Or.inl ⟨by rfl, ?_⟩) hHeld ?_ ?_
          rotate_left
          · rintro w' ⟨s0, s1, s2, s3⟩
            go_simp
            with_reducible rfl
          rotate_left
          · simp only [Act.put, List.setIfInBounds_toArray, List.set_cons_zero, List.set_cons_succ, i64_w, i32_w]
            rfl
          refine pure_ (i := 21) (N := some 55) (v := ?_) (a' := ?_) #[true, true, true, true, true, true, true, true, true, true, true, true, true, true, true, true, false, true, true, true, true, true, false, false, false, false, false, false, false, false, false, false, false, false, false, false, false, false, false, false, false] rfl rfl (by kernel_rfl) (fun _ _ _ h => h) (Or.inl ⟨by rfl, ?_⟩) ?_ ?_
          rotate_left
          · intro w'
            go_simp
            with_reducible rfl
          rotate_left
          · simp only [Act.put, List.setIfInBounds_toArray, List.set_cons_zero, List.set_cons_succ, i64_w, i32_w]
            rfl
          refine one_ (i := 16) (N := some 50) #[true, true, true, true, true, true, true, true, true, true, true, true, true, true, true, true, true, true, true, true, true, true, false, false, false, false, false, false, false, false, false, false, false, false, false, false, false, false, false, false, false] rfl rfl (by kernel_rfl) (by decide) (fun K hK => ?_)
          refine goes_ Try.func29 (by kernel_rfl) rfl #[.pointer (some ⟨d, 0, none⟩)] (by rfl) rfl rfl (by simp only [List.map_toArray, List.map_cons, List.map_nil]; rfl) ?_
          with_reducible refine ((hpend.out wd hbd')).mono ?_
          rintro e we ⟨rfl, rfl⟩
          refine ⟨_, rfl, ?_⟩
          refine hK.out _ _ ⟨f1, f2, f3, f4⟩ (fun hHeld => ?_)
          clear hK K
          refine norm_ (a' := ?_) ?_ ?_
          rotate_left
          · show Act.put _ (some 50) _ = _
            simp only [Act.put, List.setIfInBounds_toArray, List.set_cons_zero, List.set_cons_succ, i64_w, i32_w]
            rfl
          refine pure_ (i := 22) (N := some 56) (v := ?_) (a' := ?_) #[true, true, true, true, true, true, true, true, true, true, true, true, true, true, true, true, true, true, true, true, true, true, true, false, false, false, false, false, false, false, false, false, false, false, false, false, false, false, false, false, false] rfl rfl (by kernel_rfl) (fun _ _ _ h => h) (Or.inl ⟨by rfl, ?_⟩) ?_ ?_
          rotate_left
          · intro w'
            go_simp
            with_reducible rfl
          rotate_left
          · simp only [Act.put, List.setIfInBounds_toArray, List.set_cons_zero, List.set_cons_succ, i64_w, i32_w]
            rfl
          refine pure_ (i := 23) (N := some 57) (v := ?_) (a' := ?_) #[true, true, true, true, true, true, true, true, true, true, true, true, true, true, true, true, true, true, true, true, true, true, true, true, false, false, false, false, false, false, false, false, false, false, false, false, false, false, false, false, false] rfl rfl (by kernel_rfl) (fun _ _ _ h => h) (Or.inl ⟨by rfl, ?_⟩) ?_ ?_
          rotate_left
          · intro w'
            go_simp
            with_reducible rfl
          rotate_left
          · simp only [Act.put, List.setIfInBounds_toArray, List.set_cons_zero, List.set_cons_succ, i64_w, i32_w]
            rfl
          refine pure_ (i := 24) (N := some 58) (v := ?_) (a' := ?_) #[true, true, true, true, true, true, true, true, true, true, true, true, true, true, true, true, true, true, true, true, true, true, true, true, true, false, false, false, false, false, false, false, false, false, false, false, false, false, false, false, false] rfl rfl (by kernel_rfl) (fun _ _ _ h => h) (Or.inl ⟨by rfl, ?_⟩) ?_ ?_
          rotate_left
          · intro w'
            go_simp
            with_reducible rfl
          rotate_left
          · simp only [Act.put, List.setIfInBounds_toArray, List.set_cons_zero, List.set_cons_succ, i64_w, i32_w]
            rfl
          refine pure_ (i := 25) (N := some 59) (v := ?_) (a' := ?_) #[true, true, true, true, true, true, true, true, true, true, true, true, true, true, true, true, true, true, true, true, true, true, true, true, true, true, false, false, false, false, false, false, false, false, false, false, false, false, false, false, false] rfl rfl (by kernel_rfl) (fun _ _ _ h => h) (Or.inl ⟨by rfl, ?_⟩) ?_ ?_
          rotate_left
          · intro w'
            go_simp
            with_reducible rfl
          rotate_left
          · simp only [Act.put, List.setIfInBounds_toArray, List.set_cons_zero, List.set_cons_succ, i64_w, i32_w]
            rfl
          refine pure_ (i := 27) (N := some 61) (v := ?_) (a' := ?_) #[true, true, true, true, true, true, true, true, true, true, true, true, true, true, true, true, true, true, true, true, true, true, true, true, true, true, false, true, false, false, false, false, false, false, false, false, false, false, false, false, false] rfl rfl (by kernel_rfl) (fun _ _ _ h => h) (Or.inl ⟨by rfl, ?_⟩) ?_ ?_
          rotate_left
          · intro w'
            go_simp
            with_reducible rfl
          rotate_left
          · simp only [Act.put, List.setIfInBounds_toArray, List.set_cons_zero, List.set_cons_succ, i64_w, i32_w]
            rfl
          refine pure_ (i := 28) (N := some 62) (v := ?_) (a' := ?_) #[true, true, true, true, true, true, true, true, true, true, true, true, true, true, true, true, true, true, true, true, true, true, true, true, true, true, false, true, true, false, false, false, false, false, false, false, false, false, false, false, false] rfl rfl (by kernel_rfl) (fun _ _ _ h => h) (Or.inl ⟨by rfl, ?_⟩) ?_ ?_
          rotate_left
          · intro w'
            go_simp
            with_reducible rfl
          rotate_left
          · simp only [Act.put, List.setIfInBounds_toArray, List.set_cons_zero, List.set_cons_succ, i64_w, i32_w]
            rfl
          refine pure_ (i := 29) (N := some 63) (v := ?_) (a' := ?_) #[true, true, true, true, true, true, true, true, true, true, true, true, true, true, true, true, true, true, true, true, true, true, true, true, true, true, false, true, true, true, false, false, false, false, false, false, false, false, false, false, false] rfl rfl (by kernel_rfl) (fun _ _ _ h => h) (Or.inl ⟨by rfl, ?_⟩) ?_ ?_
          rotate_left
          · intro w'
            go_simp
            with_reducible rfl
          rotate_left
          · simp only [Act.put, List.setIfInBounds_toArray, List.set_cons_zero, List.set_cons_succ, i64_w, i32_w]
            rfl
          refine take_ (i := 30) (N := some 64) (v := ?_) (a' := ?_) #[true, true, true, true, true, true, true, true, true, true, true, true, true, true, true, true, true, true, true, true, true, true, true, true, true, true, false, true, true, true, true, false, false, false, false, false, false, false, false, false, false] rfl rfl (by kernel_rfl) (fun _ _ _ h => h) (Or.inl ⟨by rfl, ?_⟩) hHeld ?_ ?_
          rotate_left
          · rintro w' ⟨s0, s1, s2, s3⟩
            go_simp
            with_reducible rfl
          rotate_left
          · simp only [Act.put, List.setIfInBounds_toArray, List.set_cons_zero, List.set_cons_succ, i64_w, i32_w]
            rfl
          refine one_ (i := 26) (N := some 60) #[true, true, true, true, true, true, true, true, true, true, true, true, true, true, true, true, true, true, true, true, true, true, true, true, true, true, true, true, true, true, true, false, false, false, false, false, false, false, false, false, false] rfl rfl (by kernel_rfl) (by decide) (fun K hK => ?_)
          refine goes_ Try.func24 (by kernel_rfl) rfl #[.pointer (some ⟨d, 0, none⟩)] (by rfl) rfl rfl (by simp only [List.map_toArray, List.map_cons, List.map_nil]; rfl) ?_
          with_reducible refine ((hdown.out _ hbd')).mono ?_
          rintro e we ⟨rfl, rfl⟩
          refine ⟨_, rfl, ?_⟩
          refine hK.out _ _ ⟨f1, f2, f3, f4⟩ (fun hHeld => ?_)
          clear hK K
          refine norm_ (a' := ?_) ?_ ?_
          rotate_left
          · show Act.put _ (some 60) _ = _
            simp only [Act.put, List.setIfInBounds_toArray, List.set_cons_zero, List.set_cons_succ, i64_w, i32_w]
            rfl
          refine pure_ (i := 31) (N := some 65) (v := ?_) (a' := ?_) #[true, true, true, true, true, true, true, true, true, true, true, true, true, true, true, true, true, true, true, true, true, true, true, true, true, true, true, true, true, true, true, true, false, false, false, false, false, false, false, false, false] rfl rfl (by kernel_rfl) (fun _ _ _ h => h) (Or.inl ⟨by rfl, ?_⟩) ?_ ?_
          rotate_left
          · intro w'
            go_simp
            with_reducible rfl
          rotate_left
          · simp only [Act.put, List.setIfInBounds_toArray, List.set_cons_zero, List.set_cons_succ, i64_w, i32_w]
            rfl
          refine pure_ (i := 32) (N := some 66) (v := ?_) (a' := ?_) #[true, true, true, true, true, true, true, true, true, true, true, true, true, true, true, true, true, true, true, true, true, true, true, true, true, true, true, true, true, true, true, true, true, false, false, false, false, false, false, false, false] rfl rfl (by kernel_rfl) (fun _ _ _ h => h) (Or.inl ⟨by rfl, ?_⟩) ?_ ?_
          rotate_left
          · intro w'
            go_simp
            with_reducible rfl
          rotate_left
          · simp only [Act.put, List.setIfInBounds_toArray, List.set_cons_zero, List.set_cons_succ, i64_w, i32_w]
            rfl
          refine pure_ (i := 33) (N := some 67) (v := ?_) (a' := ?_) #[true, true, true, true, true, true, true, true, true, true, true, true, true, true, true, true, true, true, true, true, true, true, true, true, true, true, true, true, true, true, true, true, true, true, false, false, false, false, false, false, false] rfl rfl (by kernel_rfl) (fun _ _ _ h => h) (Or.inl ⟨by rfl, ?_⟩) ?_ ?_
          rotate_left
          · intro w'
            go_simp
            with_reducible rfl
          rotate_left
          · simp only [Act.put, List.setIfInBounds_toArray, List.set_cons_zero, List.set_cons_succ, i64_w, i32_w]
            rfl
          refine pure_ (i := 34) (N := some 68) (v := ?_) (a' := ?_) #[true, true, true, true, true, true, true, true, true, true, true, true, true, true, true, true, true, true, true, true, true, true, true, true, true, true, true, true, true, true, true, true, true, true, true, false, false, false, false, false, false] rfl rfl (by kernel_rfl) (fun _ _ _ h => h) (Or.inl ⟨by rfl, ?_⟩) ?_ ?_
          rotate_left
          · intro w'
            go_simp
            with_reducible rfl
          rotate_left
          · simp only [Act.put, List.setIfInBounds_toArray, List.set_cons_zero, List.set_cons_succ, i64_w, i32_w]
            rfl
          refine pure_ (i := 36) (N := some 70) (v := ?_) (a' := ?_) #[true, true, true, true, true, true, true, true, true, true, true, true, true, true, true, true, true, true, true, true, true, true, true, true, true, true, true, true, true, true, true, true, true, true, true, false, true, false, false, false, false] rfl rfl (by kernel_rfl) (fun _ _ _ h => h) (Or.inl ⟨by rfl, ?_⟩) ?_ ?_
          rotate_left
          · intro w'
            go_simp
            with_reducible rfl
          rotate_left
          · simp only [Act.put, List.setIfInBounds_toArray, List.set_cons_zero, List.set_cons_succ, i64_w, i32_w]
            rfl
          refine take_ (i := 35) (N := some 69) (v := ?_) (a' := ?_) #[true, true, true, true, true, true, true, true, true, true, true, true, true, true, true, true, true, true, true, true, true, true, true, true, true, true, true, true, true, true, true, true, true, true, true, true, true, false, false, false, false] rfl rfl (by kernel_rfl) (fun _ _ _ h => h) (Or.inl ⟨by rfl, ?_⟩) hHeld ?_ ?_
          rotate_left
          · rintro w' ⟨s0, s1, s2, s3⟩
            go_simp
            with_reducible rfl
          rotate_left
          · simp only [Act.put, List.setIfInBounds_toArray, List.set_cons_zero, List.set_cons_succ, i64_w, i32_w]
            rfl
          refine take_ (i := 37) (N := some 71) (v := ?_) (a' := ?_) #[true, true, true, true, true, true, true, true, true, true, true, true, true, true, true, true, true, true, true, true, true, true, true, true, true, true, true, true, true, true, true, true, true, true, true, true, true, true, false, false, false] rfl rfl (by kernel_rfl) (fun _ _ _ h => h) (Or.inl ⟨by rfl, ?_⟩) hHeld ?_ ?_
          rotate_left
          · rintro w' ⟨s0, s1, s2, s3⟩
            go_simp
            with_reducible rfl
          rotate_left
          · simp only [Act.put, List.setIfInBounds_toArray, List.set_cons_zero, List.set_cons_succ, i64_w, i32_w]
            rfl
          refine one_ (i := 38) (N := some 72) #[true, true, true, true, true, true, true, true, true, true, true, true, true, true, true, true, true, true, true, true, true, true, true, true, true, true, true, true, true, true, true, true, true, true, true, true, true, true, true, false, false] rfl rfl (by kernel_rfl) (by decide) (fun K hK => ?_)
          refine goes_ Try.func22 (by kernel_rfl) rfl #[.slice A5 ac.ks.length c5, .slice ac.A ac.ks.length ac.c] (by rfl) rfl rfl (by simp only [List.map_toArray, List.map_cons, List.map_nil]; rfl) ?_
          with_reducible refine ((hsm.out _ hbd')).mono ?_
          rintro e wg ⟨rfl, q, rfl⟩
          refine ⟨_, rfl, ?_⟩
          obtain ⟨f1, f2, f3, f4⟩ := hstay.out _ (Below.drws hbd' q)
          refine hK.out _ _ ⟨f1, f2, f3, f4⟩ (fun hHeld => ?_)
          clear hK K
          refine norm_ (a' := ?_) ?_ ?_
          rotate_left
          · show Act.put _ (some 72) _ = _
            simp only [Act.put, List.setIfInBounds_toArray, List.set_cons_zero, List.set_cons_succ, i64_w, i32_w]
            rfl
          refine pure_ (i := 39) (N := some 73) (v := ?_) (a' := ?_) #[true, true, true, true, true, true, true, true, true, true, true, true, true, true, true, true, true, true, true, true, true, true, true, true, true, true, true, true, true, true, true, true, true, true, true, true, true, true, true, true, false] rfl rfl (by kernel_rfl) (fun _ _ _ h => h) (Or.inl ⟨by rfl, ?_⟩) ?_ ?_
          rotate_left
          · intro w'
            go_simp
            with_reducible rfl
          rotate_left
          · simp only [Act.put, List.setIfInBounds_toArray, List.set_cons_zero, List.set_cons_succ, i64_w, i32_w]
            rfl
          refine pure_ (i := 40) (N := some 74) (v := ?_) (a' := ?_) #[true, true, true, true, true, true, true, true, true, true, true, true, true, true, true, true, true, true, true, true, true, true, true, true, true, true, true, true, true, true, true, true, true, true, true, true, true, true, true, true, true] rfl rfl (by kernel_rfl) (fun _ _ _ h => h) (Or.inl ⟨by rfl, ?_⟩) ?_ ?_
          rotate_left
          · intro w'
            go_simp
            with_reducible rfl
          rotate_left
          · simp only [Act.put, List.setIfInBounds_toArray, List.set_cons_zero, List.set_cons_succ, i64_w, i32_w]
            rfl
          refine done_ (by kernel_rfl) ?_
          go_wp2
          exact ⟨⟨k + 1, by omega, by go_num, F1', F', R', s', HDUO.out.below (Below.drws hbd' q), HL'.out⟩, by simp [intOf]; omega⟩
        · obtain rfl : k = m := by omega
          have hbel := hb1.trans (hT.a.bel.mono hb1.size)
          have HB := Lib.hid hbel
          clear hbel hT hlen
          go_wp2_with fail
          go_ret
          exact ⟨rfl, HB.out⟩
theorem DiskActs_walk {w : World} (z : Int) (hz1 : -9223372036854775808 ≤ z) (hz2 : z ≤ 9223372036854775807) (A : Option Addr) (cA : Nat) (L : List Ac) (hL : Acts w A L) :
    Calls Try.prog 7 #[.int .i64 z, .slice A L.length cA] w fun e w' => e = .returned (.bool true) ∧ Below w.heap.size w w' :=
  DiskActs_go z A cA L w hL hz1 hz2
end Go.Proofs.Ytomihbanpjedeaa
