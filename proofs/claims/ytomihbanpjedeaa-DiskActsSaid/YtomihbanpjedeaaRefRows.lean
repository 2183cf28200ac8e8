/- The document's disk: rows of sectors; with. -/
import Derived.Test.YtomihbanpjedeaaDiskFuse
namespace Go.Proofs.Ytomihbanpjedeaa
open Go.RowKit
set_option linter.unusedSimpArgs false
/-- append to what one owns, of m elements from wherever. -/
theorem append_gen {w : World} {base : Nat} {t e : TypeId} {i : TypeInfo} {z : Value} {size bytes : Nat} (ht : Try.prog.underlying t = some (.slice e)) (hi : Try.prog.info? e = some i) (hz : i.zero = some z) (hsize : i.size = size) (hby : i.bytes = bytes) (hzs : z.cells.size = size) (hpos : 0 < size)
    {v : Value} {n : Nat} {xs : List Value} (ho : w.ownsRow base e size v n xs) (hb : base ≤ w.heap.size) {A : Option Addr} {m c : Nat} {news : List Value} (hl : news.length = m * size) (h1 : ∀ u ∈ news, u.oneCell' = true)
    (hc : ∀ a, A = some a → ∀ j u, news[j]? = some u → w.cell? (a.add j) = some u) (hA : A = none → m = 0 ∧ c = 0) (hs : (n + m) * bytes ≤ 1000000000) (hs2 : n + m ≤ 1000000000) (ty : TypeId) :
    ∃ v' w', (Builtin.append_ #[t, t] ty #[v, .slice A m c]).run Try.prog w = .ok v' w' ∧ w'.ownsRow base e size v' (n + m) (xs ++ news) ∧ w.grownBy w' v.ownBlock := by
  cases A with
  | some a =>
    obtain ⟨v', w', r1, r2, r3, _⟩ := run_append_own (P := Try.prog) w base t ty e i z size bytes ht hi hz hsize hby hzs hpos v n xs ho a m c news hl (hc a rfl) h1 (by unfold maxLen; omega) (by omega) hb
    exact ⟨v', w', r1, r2, r3⟩
  | none =>
    obtain ⟨rfl, rfl⟩ := hA rfl
    have : news = [] := List.eq_nil_of_length_eq_zero (by simpa using hl)
    subst this
    exact ⟨v, w, run_append_owned_none w base t ty e i size ht hi v n xs ho, by simpa using ho, World.grownBy.refl _ _⟩
theorem info41 : (Try.prog.info? 41).map (fun i => (i.zero, i.size, i.bytes)) = some (some (.slice none 0 0), 1, 24) := by kernel_rfl
theorem info43 : (Try.prog.info? 43).map (fun i => (i.zero, i.size, i.bytes)) = some (some (.agg #[.int .i64 0, .int .i64 0, .slice none 0 0, .int .u64 0, .int .i64 0, .int .i64 0]), 6, 64) := by kernel_rfl
theorem append_rows {w : World} {base : Nat} {v : Value} {n : Nat} {xs : List Value} (ho : w.ownsRow base 41 1 v n xs) (hb : base ≤ w.heap.size) {A : Option Addr} {m c : Nat} {news : List Value} (hl : news.length = m) (h1 : ∀ u ∈ news, u.oneCell' = true)
    (hc : ∀ a, A = some a → ∀ j u, news[j]? = some u → w.cell? (a.add j) = some u) (hA : A = none → m = 0 ∧ c = 0) (hs : n + m ≤ 1000000) (ty : TypeId) :
    ∃ v' w', (Builtin.append_ #[56, 56] ty #[v, .slice A m c]).run Try.prog w = .ok v' w' ∧ w'.ownsRow base 41 1 v' (n + m) (xs ++ news) ∧ w.grownBy w' v.ownBlock := by
  obtain ⟨i, hi, h⟩ := Option.map_eq_some_iff.1 info41
  simp only [Prod.mk.injEq] at h
  exact append_gen Try.underlying56 hi h.1 h.2.1 h.2.2 (by rfl) (by decide) ho hb (by omega) h1 hc hA (by omega) (by omega) ty
theorem append_bytes {w : World} {base : Nat} {v : Value} {n : Nat} {xs : List Value} (ho : w.ownsRow base 5 1 v n xs) (hb : base ≤ w.heap.size) {A : Option Addr} {m c : Nat} {news : List Value} (hl : news.length = m) (h1 : Bytes news)
    (hc : ∀ a, A = some a → ∀ j u, news[j]? = some u → w.cell? (a.add j) = some u) (hA : A = none → m = 0 ∧ c = 0) (hs : n + m ≤ 1000000) (ty : TypeId) :
    ∃ v' w', (Builtin.append_ #[41, 41] ty #[v, .slice A m c]).run Try.prog w = .ok v' w' ∧ w'.ownsRow base 5 1 v' (n + m) (xs ++ news) ∧ w.grownBy w' v.ownBlock := by
  obtain ⟨i, hi, h⟩ := Option.map_eq_some_iff.1 info5
  simp only [Prod.mk.injEq] at h
  exact append_gen Try.underlying41 hi h.1 h.2.1 h.2.2 (by rfl) (by decide) ho hb (by omega) h1.one hc hA (by omega) (by omega) ty
/-- n rows from A on: xs; their blocks are among R. -/
structure Rw (w : World) (R : Nat → Prop) (A : Option Addr) (n : Nat) (xs : List Value) : Prop where
  len : xs.length = n * 64
  byt : Bytes xs
  at_ : 0 < n → ∃ a, A = some a ∧ R a.block ∧ ∀ i, i < n → ∃ B c, 64 ≤ c ∧ R B.block ∧ w.cell? (a.add i) = some (.slice (some B) 64 c) ∧ ∀ j u, (sec xs i)[j]? = some u → w.cell? (B.add j) = some u
theorem Rw.chg {w w' : World} {R G : Nat → Prop} {A : Option Addr} {n : Nat} {xs : List Value} (h : Rw w R A n xs) (hg : Chg G w w') (hRG : ∀ i, R i → ¬ G i) : Rw w' R A n xs :=
  ⟨h.len, h.byt, fun hn => by
    obtain ⟨a, ha, hr, hc⟩ := h.at_ hn
    have keep : ∀ {x : Addr} {u : Value}, R x.block → w.cell? x = some u → w'.cell? x = some u := fun hx hu => (World.cell?_of_block (hg.block _ (World.block_lt_of_cell? w _ hu) (hRG _ hx))).trans hu
    refine ⟨a, ha, hr, fun i hi => ?_⟩
    obtain ⟨B, c, h1, h2, h3, h4⟩ := hc i hi
    exact ⟨B, c, h1, h2, keep (by rw [add_block]; exact hr) h3, fun j u hj => keep (by rw [add_block]; exact h2) (h4 j u hj)⟩⟩
theorem Rw.below {w w' : World} {R : Nat → Prop} {A : Option Addr} {n : Nat} {xs : List Value} (h : Rw w R A n xs) (hb : Below w.heap.size w w') : Rw w' R A n xs :=
  h.chg (G := fun _ => False) (Chg.of_below hb) (fun _ _ e => e)
theorem Rw.mono {w : World} {R R' : Nat → Prop} {A : Option Addr} {n : Nat} {xs : List Value} (h : Rw w R A n xs) (hR : ∀ i, R i → R' i) : Rw w R' A n xs :=
  ⟨h.len, h.byt, fun hn => by
    obtain ⟨a, ha, hr, hc⟩ := h.at_ hn
    refine ⟨a, ha, hR _ hr, fun i hi => ?_⟩
    obtain ⟨B, c, h1, h2, h3, h4⟩ := hc i hi
    exact ⟨B, c, h1, hR _ h2, h3, h4⟩⟩
/-- The rows' values, as a list. -/
theorem Rw.vals {w : World} {R : Nat → Prop} {A : Option Addr} {n : Nat} {xs : List Value} (h : Rw w R A n xs) (hn : 0 < n) : ∃ (a : Addr) (rows : List Value), A = some a ∧ rows.length = n ∧ (∀ u ∈ rows, u.oneCell' = true) ∧ (∀ j u, rows[j]? = some u → w.cell? (a.add j) = some u) ∧
    ∀ i u, rows[i]? = some u → ∃ (B : Addr) (c : Nat), u = .slice (some B) 64 c ∧ 64 ≤ c ∧ R B.block ∧ ∀ j u, (sec xs i)[j]? = some u → w.cell? (B.add j) = some u := by
  obtain ⟨a, ha, hr, hc⟩ := h.at_ hn
  have : ∀ i : Nat, ∃ u : Value, i < n → w.cell? (a.add i) = some u ∧ ∃ (B : Addr) (c : Nat), u = .slice (some B) 64 c ∧ 64 ≤ c ∧ R B.block ∧ ∀ j u, (sec xs i)[j]? = some u → w.cell? (B.add j) = some u := fun i => by
    by_cases hi : i < n
    · obtain ⟨B, c, h1, h2, h3, h4⟩ := hc i hi
      exact ⟨_, fun _ => ⟨h3, B, c, rfl, h1, h2, h4⟩⟩
    · exact ⟨.bool false, fun q => absurd q hi⟩
  obtain ⟨V, hV⟩ := Classical.axiomOfChoice this
  have hget : ∀ i u, ((List.range n).map V)[i]? = some u → i < n ∧ V i = u := fun i u hu => by
    have hi : i < n := by have := (List.getElem?_eq_some_iff.1 hu).1; simpa using this
    rw [List.getElem?_map, List.getElem?_range hi] at hu
    exact ⟨hi, by simpa using hu⟩
  refine ⟨a, (List.range n).map V, ha, by simp, fun u hu => ?_, fun j u hj => ?_, fun i u hi => ?_⟩
  · obtain ⟨i, hi, rfl⟩ := List.mem_map.1 hu
    obtain ⟨_, B, c, e, _⟩ := hV i (List.mem_range.1 hi)
    rw [e]; rfl
  · obtain ⟨h1, rfl⟩ := hget j u hj
    exact (hV j h1).1
  · obtain ⟨h1, rfl⟩ := hget i u hi
    exact (hV i h1).2
theorem sec_put_same {xs ks : List Value} {n k m : Nat} (hx : xs.length = n * 64) (hk : k < n) (hl : ks.length = 64) (hm : m ≤ 64) : sec (put xs k (ks.take m)) k = ks.take m ++ (sec xs k).drop m := by
  have htl : (ks.take m).length = m := by rw [List.length_take]; omega
  apply List.ext_getElem?
  intro i
  rw [sec_get, List.getElem?_append, htl]
  split
  · rw [put_get (by omega), htl, if_neg (by omega)]
    split
    · rw [if_pos (by omega)]; congr 1; omega
    · rw [if_neg (by omega), List.getElem?_drop, sec_get, if_pos (by omega)]; congr 1; omega
  · rw [if_neg (by omega), List.getElem?_drop, sec_get, if_neg (by omega)]
theorem slice_upto (B : Addr) (n c m : Nat) (hm : m ≤ c) (hc : 0 < c) (W : World) : (Instr.sliceAt 41 (.slice (some B) n c) none (some (.int .i64 (m : Int))) none).run Try.prog W = .ok (.slice (some B) m c) W := by
  have hel : Try.prog.elem 41 = 5 := by kernel_rfl
  rw [run_sliceAt_slice W 41 _ _ _ _ (by rw [hel]; exact Try.underlying41), run_slice_h W 41 _ _ _ (by rw [hel]; exact Try.underlying41) .i64 (m : Int) (by omega) (by omega), hel, size_of (t := 5) (n := 1) (by kernel_rfl) W]
  simp [Result.andThen, sliced, Nat.ne_of_gt hc, Addr.add]
theorem slice_from (B : Addr) (n c m : Nat) (hm : m ≤ n) (hn : n ≤ c) (W : World) : (Instr.sliceAt 41 (.slice (some B) n c) (some (.int .i64 (m : Int))) none none).run Try.prog W = .ok (.slice (some (if c = m then B else B.add m)) (n - m) (c - m)) W := by
  have hel : Try.prog.elem 41 = 5 := by kernel_rfl
  rw [run_sliceAt_slice W 41 _ _ _ _ (by rw [hel]; exact Try.underlying41), run_slice_l W 41 _ _ _ (by rw [hel]; exact Try.underlying41) .i64 (m : Int) (by omega) (by omega), hel, size_of (t := 5) (n := 1) (by kernel_rfl) W]
  simp only [Result.andThen, sliced, Int.toNat_natCast, Nat.mul_one]
  split <;> rfl
set_option maxHeartbeats 1000000 in
theorem with_calls (R : Nat → Prop) (A : Option Addr) (n c k m : Nat) (B : Addr) (cB : Nat) (xs ks : List Value) (w : World) (h : Rw w R A n xs) (hk : k < n) (hn : n ≤ 2048) (hm : m ≤ 64) (hb : Bytes ks) (hl : ks.length = 64) (hB : ∀ j u, ks[j]? = some u → w.cell? (B.add j) = some u) (hcB : 64 ≤ cB) :
    Calls Try.prog 42 #[.slice A n c, .int .i64 (k : Int), .slice (some B) 64 cB, .int .i64 (m : Int)] w fun e w' => ∃ A' c', e = .returned (.slice A' n c') ∧ Rw w' (fun i => R i ∨ (w.heap.size ≤ i ∧ i < w'.heap.size)) A' n (put xs k (ks.take m)) ∧ Below w.heap.size w w' := by
  obtain ⟨a, rows, rfl, hrl, hr1, hrc, hrow⟩ := h.vals (by omega)
  obtain ⟨v1, w1, e1, o1, g1⟩ := append_rows (World.ownsRow_nil w w.heap.size 41 1) (Nat.le_refl _) (A := some a) (c := c) hrl hr1 (fun b hb => by cases hb; exact hrc) (fun h => by cases h) (by omega) 56
  rw [Nat.zero_add, List.nil_append] at o1
  have b1 : Below w.heap.size w w1 := (Below.refl _ _).grown g1 (Nat.le_refl _) (fun k hk => by cases hk)
  obtain ⟨G1, c1, rfl⟩ : ∃ G1 c1, v1 = .slice (some ⟨G1, 0, none⟩) n c1 := by
    rcases o1.2 with ⟨_, h0⟩ | ⟨g, cap, cur, e, _⟩
    · omega
    · exact ⟨g, cap, e⟩
  obtain ⟨Bk, ck, hrk, hck, hRk, hsk⟩ := hrow k rows[k] (List.getElem?_eq_getElem (by omega))
  have hcellk : w1.cell? (a.add k) = some (.slice (some Bk) 64 ck) := pw_cell_below b1 (hrc k _ (by rw [List.getElem?_eq_getElem (by omega), hrk]))
  obtain ⟨v2, w2, e2, o2, g2⟩ := append_bytes (w := w1) (World.ownsRow_nil w1 w1.heap.size 5 1) (Nat.le_refl _) (A := some B) (m := m) (c := cB) (news := ks.take m) (by rw [List.length_take]; omega) (fun u hu => hb u (List.mem_of_mem_take hu))
    (fun b hb j u hj => by cases hb; exact pw_cell_below b1 (hB j u (by rw [List.getElem?_take] at hj; split at hj; exact hj; cases hj))) (fun h => by cases h) (by omega) 41
  rw [Nat.zero_add, List.nil_append] at o2
  have b2 : Below w1.heap.size w1 w2 := (Below.refl _ _).grown g2 (Nat.le_refl _) (fun k hk => by cases hk)
  have hss : ∀ j u, ((sec xs k).drop m)[j]? = some u → w2.cell? ((if ck = m then Bk else Bk.add m).add j) = some u := fun j u hj => by
    have hsl := sec_length h.len hk
    by_cases hcm : ck = m
    · have : (sec xs k).drop m = [] := List.drop_eq_nil_of_le (by omega)
      rw [this] at hj
      simp at hj
    · rw [if_neg hcm, Addr.add_add]
      rw [List.getElem?_drop] at hj
      exact pw_cell_below b2 (pw_cell_below b1 (hsk _ u hj))
  obtain ⟨v3, w3, e3, o3, g3⟩ := append_bytes (w := w2) (base := w1.heap.size) o2 b2.size (A := some (if ck = m then Bk else Bk.add m)) (m := 64 - m) (c := ck - m) (news := (sec xs k).drop m) (by rw [List.length_drop, sec_length h.len hk]) (fun u hu => sec_bytes h.byt k u (List.mem_of_mem_drop hu))
    (fun b hb j u hj => by cases hb; exact hss j u hj) (fun h => by cases h) (by omega) 41
  have b3 : Below w1.heap.size w1 w3 := b2.grown g3 b2.size (fun k hk => (o2.lt k hk).1)
  rw [show m + (64 - m) = 64 by omega] at o3
  obtain ⟨G3, c3, rfl⟩ : ∃ G3 c3, v3 = .slice (some ⟨G3, 0, none⟩) 64 c3 := by
    rcases o3.2 with ⟨_, h0⟩ | ⟨g, cap, cur, e, _⟩
    · omega
    · exact ⟨g, cap, e⟩
  have o4 : w3.ownsRow w.heap.size 41 1 (.slice (some ⟨G1, 0, none⟩) n c1) n rows := o1.kept (row := none) ⟨b3.os, b3.tape, b3.output, b3.size, fun i hi _ => b3.block i hi⟩ (by simp [Value.ownBlock])
  have x1 := o4.cellAt k (by omega)
  have x2 := o4.frozenAt k
  have x3 := o4.stored k (.slice (some ⟨G3, 0, none⟩) 64 c3)
  have hcell3 : w2.cell? (a.add k) = some (.slice (some Bk) 64 ck) := pw_cell_below b2 hcellk
  have sl1 := fun W => slice_upto B 64 cB m (by omega) (by omega) W
  have sl2 := fun W => slice_from Bk 64 ck m hm hck W
  rw [List.getElem?_eq_getElem (by omega)] at x1
  have i3 : (0 : Int) ≤ (k : Int) := by omega
  have i4 : (k : Int) < (n : Int) := by omega
  have HRC := Lib.hid hrc
  have HROW := Lib.hid hrow
  have HSK := Lib.hid hsk
  have HB := Lib.hid hB
  have HRK := Lib.hid hrk
  have X3 := Lib.hid x3
  have O3 := Lib.hid o3
  have O4 := Lib.hid o4
  have HSS := Lib.hid hss
  have OG1 := Lib.hid (o1.lt G1 rfl).2
  clear hrc hrow hsk hB hrk hr1 x3 o3 o4 hss hcellk o1 o2
  generalize (if ck = m then Bk else Bk.add m) = B2 at *
  go_enter Try.func42, Try.ntmps42
  go_wp2_with (at_builtin; first | (refine Lib.wpList_append_run _ rfl _ _ _ _ rfl _ _ rfl rfl _ _ e1 ?_) | (refine Lib.wpList_append_run _ rfl _ _ _ _ rfl _ _ rfl rfl _ _ e2 ?_) | (refine Lib.wpList_append_run _ rfl _ _ _ _ rfl _ _ rfl rfl _ _ e3 ?_))
  go_ret
  have h1 := HRC.out
  have h2 := HROW.out
  have h3 := X3.out
  have h4 := O3.out
  have h5 := O4.out
  have hG1 := h5.lt G1 rfl
  have hG3 := h4.lt G3 rfl
  have hG1' : G1 < w1.heap.size := OG1.out
  have hbw3 : Below w.heap.size w w3 := b1.trans (b3.mono b1.size)
  have hbf : Below w.heap.size w (w3.setCell ⟨G1, k, none⟩ (.slice (some ⟨G3, 0, none⟩) 64 c3)) := Below.setCell hbw3 hG1.1 _
  refine ⟨_, c1, rfl, ⟨put_length h.len hk (by rw [List.length_take]; omega), put_bytes h.byt (fun u hu => hb u (List.mem_of_mem_take hu)) k, fun _ => ⟨_, rfl, .inr ⟨hG1.1, by simpa using hG1.2⟩, fun i hi => ?_⟩⟩, hbf⟩
  by_cases hik : i = k
  · subst hik
    have hc64 : 64 ≤ c3 := by
      rcases h4.2 with ⟨e, _⟩ | ⟨g, cap, cur, e, _, _, hnc, _⟩
      · simp at e
      · simp only [Value.slice.injEq] at e; omega
    refine ⟨⟨G3, 0, none⟩, c3, hc64, .inr ⟨show w.heap.size ≤ G3 by have := b1.size; omega, by simpa using hG3.2⟩, ?_, ?_⟩
    · exact h3.1.cells rfl i _ (by simp [hrl, hi])
    · rw [sec_put_same h.len hk hl hm]
      intro j u hj
      have := h4.cells rfl j u hj
      exact (World.cell?_of_block (Below.heap_setCell w3 _ _ _ (by rw [add_block]; show G3 ≠ G1; omega))).trans this
  · obtain ⟨Bi, ci, hri, hci, hRi, hsi⟩ := h2 i rows[i] (List.getElem?_eq_getElem (by omega))
    refine ⟨Bi, ci, hci, .inl hRi, ?_, ?_⟩
    · refine h3.1.cells rfl i _ ?_
      rw [List.getElem?_set_ne (by omega), List.getElem?_eq_getElem (by omega), hri]
    · rw [sec_put_other h.len hk (fun e => hik e.symm) (by rw [List.length_take]; omega)]
      intro j u hj
      exact pw_cell_below hbf (hsi j u hj)
end Go.Proofs.Ytomihbanpjedeaa
