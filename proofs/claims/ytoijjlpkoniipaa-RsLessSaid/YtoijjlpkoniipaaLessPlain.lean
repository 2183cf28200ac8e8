/- The law RsLess: plain; two lists that grow side by side. -/
import Derived.Test.YtoijjlpkoniipaaAnyPlain
set_option linter.unusedVariables false
set_option linter.unusedSimpArgs false
namespace Go.Proofs.Ytoijjlpkoniipaa
open Go.RowKit Go.Proofs.YtoijjlpkoniipaaW.PrintWords Go.Proofs.YtoijjlpkoniipaaW.PrintLast Gf Lin Go.ChangeShapes Go.WideShapes
/-- One cell appended to cells of its own: where the new list lies. -/
theorem append_g {t e : TypeId} {zv : Value} {by_ : Nat} (ht : Try.prog.underlying t = some (.slice e)) (hinf : (Try.prog.info? e).map (fun i => (i.zero, i.size, i.bytes)) = some (some zv, 1, by_)) (hzc : zv.cells.size = 1) (hby : by_ ≤ 24)
    {w : World} {base : Nat} {v : Value} {n : Nat} {xs : List Value} (ho : w.ownsRow base e 1 v n xs) (hb : base ≤ w.heap.size) {a : Addr} {u : Value} (h1 : u.oneCell' = true) (hc : w.cell? a = some u) (hs : n ≤ 1000) (ty : TypeId) :
    ∃ v' w', (Builtin.append_ #[t, t] ty #[v, .slice (some a) 1 1]).run Try.prog w = .ok v' w' ∧ w'.ownsRow base e 1 v' (n + 1) (xs ++ [u]) ∧ w.grownBy w' v.ownBlock ∧ ∀ g, v'.ownBlock = some g → v.ownBlock = some g ∨ w.heap.size ≤ g := by
  obtain ⟨i0, hi, hinf⟩ := Option.map_eq_some_iff.1 hinf
  simp only [Prod.mk.injEq] at hinf
  have hbb : (n + 1) * by_ ≤ 140737488355328 := by
    have : (n + 1) * by_ ≤ 1001 * 24 := Nat.mul_le_mul (by omega) hby
    omega
  have hcs : ∀ j x, [u][j]? = some x → w.cell? (a.add j) = some x := fun j x hj => by
    cases j with
    | zero =>
      obtain rfl : u = x := by simpa using hj
      have : a.add 0 = a := by simp [Addr.add]
      rw [this]; exact hc
    | succ j => simp at hj
  rcases ho.2 with ⟨rfl, rfl⟩ | ⟨g, cap, cur, rfl, hbg, hg, hnc, hcm, hcs', htake⟩
  · have ho' : w.ownsRow w.heap.size e 1 (.slice none 0 0) 0 xs := ⟨ho.1, .inl ⟨rfl, rfl⟩⟩
    obtain ⟨v', w', r1, r2, r3, r4⟩ := run_append_own (P := Try.prog) w w.heap.size t ty e i0 _ 1 by_ ht hi hinf.1 hinf.2.1 hinf.2.2 hzc (by decide) _ 0 xs ho' a 1 1 [u] rfl hcs (by simpa using h1) (by unfold maxLen; omega) hbb (Nat.le_refl _)
    refine ⟨v', w', r1, ⟨r2.1, ?_⟩, r3, fun g hg => .inr (r2.lt g hg).1⟩
    rcases r2.2 with hq | ⟨g, cap, cur, e, hb', rest⟩
    · exact .inl hq
    · exact .inr ⟨g, cap, cur, e, by omega, rest⟩
  · by_cases hroom : n + 1 ≤ cap
    · obtain ⟨w', r1, r2, r3⟩ := run_append_fits (P := Try.prog) (ty := ty) w base t e i0 1 ht hi hinf.2.1 g n cap xs ho a 1 1 [u] rfl hcs (by simpa using h1) hroom
      exact ⟨_, w', r1, r2, r3, fun g' hg' => .inl hg'⟩
    · obtain ⟨v', w', r1, r2, r3⟩ := run_append_arg_grows (P := Try.prog) (ty := ty) w t e i0 _ 1 by_ ht hi hinf.1 hinf.2.1 hinf.2.2 hzc (by decide) ⟨g, 0, none⟩ n cap xs ho.1 (ho.cells rfl) a 1 1 [u] rfl hcs (by omega) (by unfold maxLen; omega) hbb
      refine ⟨v', w', r1, ⟨r2.1, ?_⟩, ⟨r3.os, r3.tape, r3.output, r3.size, fun k hk _ => r3.block k hk (by simp)⟩, fun g hg => .inr (r2.lt g hg).1⟩
      rcases r2.2 with hq | ⟨g, cap, cur, e, hb', rest⟩
      · exact .inl hq
      · exact .inr ⟨g, cap, cur, e, by omega, rest⟩
/-- Numbers at v and rows at u grow, from world w0 on; the rows are older. -/
structure Tw (w0 w : World) (v : Value) (zs : List Int) (u : Value) (rows : List (List UInt8)) : Prop where
  oi : w.ownsRow w0.heap.size 3 1 v zs.length (iv zs)
  ow : ∃ us, w.ownsRow w0.heap.size 35 1 u rows.length us ∧ RV w0 us rows
  ne : ∀ g, v.ownBlock = some g → u.ownBlock ≠ some g
  bel : Below w0.heap.size w0 w
theorem Tw.start (w : World) : Tw w w (.slice none 0 0) [] (.slice none 0 0) [] := ⟨World.ownsRow_nil _ _ _ _, ⟨[], World.ownsRow_nil _ _ _ _, RV.nil _⟩, fun g hg => by simp [Value.ownBlock] at hg, Below.refl _ _⟩
theorem Tw.form {w0 w : World} {v u : Value} {zs : List Int} {rows : List (List UInt8)} (h : Tw w0 w v zs u rows) : ∃ A c B d, v = .slice A zs.length c ∧ u = .slice B rows.length d := by
  obtain ⟨us, h1, _⟩ := h.ow
  obtain ⟨A, c, hA⟩ := ownsRow_form3 h.oi
  obtain ⟨B, d, hB⟩ := ownsRow_form h1
  exact ⟨A, c, B, d, hA, hB⟩
theorem Tw.ri {w0 w : World} {A : Option Addr} {q c : Nat} {u : Value} {zs : List Int} {rows : List (List UInt8)} (h : Tw w0 w (.slice A q c) zs u rows) (hq : zs.length = q) (hn : q ≤ 1000) : RI w A q c zs := by
  have ho := h.oi
  rw [hq] at ho
  exact RI.of_own ho (by omega)
theorem Tw.rd {w0 w : World} {B : Option Addr} {q d : Nat} {v : Value} {zs : List Int} {rows : List (List UInt8)} (h : Tw w0 w v zs (.slice B q d) rows) (hq : rows.length = q) (hn : q ≤ 1000) : RD w B q d rows := by
  obtain ⟨us, h1, h2⟩ := h.ow
  rw [hq] at h1
  exact RD.of_own h1 (h2.below h.bel) (by omega)
theorem Tw.stepI {w0 w : World} {v u : Value} {zs : List Int} {rows : List (List UInt8)} (h : Tw w0 w v zs u rows) (z : Int) (hs : zs.length ≤ 1000) (ty : TypeId) :
    ∃ A' cap' w', (Builtin.append_ #[80, 80] ty #[v, .slice (some ⟨w.heap.size, 0, none⟩) 1 1]).run Try.prog (w.alloc (.cells #[.int .i64 z] 3)) = .ok (.slice A' (zs.length + 1) cap') w' ∧ Tw w0 w' (.slice A' (zs.length + 1) cap') (zs ++ [z]) u rows := by
  obtain ⟨us, h1, h2⟩ := h.ow
  have bA := Below.alloc1 w (.cells #[.int .i64 z] 3)
  have gA : w.grownBy (w.alloc (.cells #[.int .i64 z] 3)) none := ⟨bA.os, bA.tape, bA.output, bA.size, fun j hj _ => bA.block j hj⟩
  have o1 := h.oi.kept (row := none) gA (by cases hv : v.ownBlock <;> simp)
  have o2 := h1.kept (row := none) gA (by cases hv : u.ownBlock <;> simp)
  have hbase : w0.heap.size ≤ w.heap.size := h.bel.size
  have n2 := heap_alloc_new w (.cells #[.int .i64 z] 3)
  obtain ⟨v', w', r1, r2, r3, r4⟩ := append_g Try.underlying80 info3 rfl (by decide) o1 (by simp; omega) (a := ⟨w.heap.size, 0, none⟩) (u := .int .i64 z) rfl (by rw [cell_of_row _ _ _ _ _ _ n2]; rfl) hs ty
  obtain ⟨A', cap', rfl⟩ := ownsRow_form3 r2
  have e : iv zs ++ [.int .i64 z] = iv (zs ++ [z]) := by simp [iv]
  rw [e] at r2
  refine ⟨A', cap', w', r1, by simpa using r2, ⟨us, o2.kept r3 ?_, h2⟩, fun g hg e2 => ?_, (h.bel.trans (bA.mono hbase)).grown r3 (by simp; omega) (fun k hk => (o1.lt k hk).1)⟩
  · cases hv : v.ownBlock with
    | none => cases hu : u.ownBlock <;> simp
    | some g =>
      have := h.ne g hv
      exact .inr this
  · rcases r4 g hg with h4 | h4
    · exact h.ne g h4 e2
    · have := (h1.lt g e2).2
      simp at h4; omega
theorem Tw.stepR {w0 w : World} {v u : Value} {zs : List Int} {rows : List (List UInt8)} (h : Tw w0 w v zs u rows) {B : Option Addr} {q cB : Nat} {r : List UInt8} (hr : RS w0 B q cB r) (hs : rows.length ≤ 1000) (ty : TypeId) :
    ∃ A' cap' w', (Builtin.append_ #[36, 36] ty #[u, .slice (some ⟨w.heap.size, 0, none⟩) 1 1]).run Try.prog (w.alloc (.cells #[.slice B q cB] 35)) = .ok (.slice A' (rows.length + 1) cap') w' ∧ Tw w0 w' v zs (.slice A' (rows.length + 1) cap') (rows ++ [r]) := by
  obtain ⟨us, h1, h2⟩ := h.ow
  have bA := Below.alloc1 w (.cells #[.slice B q cB] 35)
  have gA : w.grownBy (w.alloc (.cells #[.slice B q cB] 35)) none := ⟨bA.os, bA.tape, bA.output, bA.size, fun j hj _ => bA.block j hj⟩
  have o1 := h.oi.kept (row := none) gA (by cases hv : v.ownBlock <;> simp)
  have o2 := h1.kept (row := none) gA (by cases hv : u.ownBlock <;> simp)
  have hbase : w0.heap.size ≤ w.heap.size := h.bel.size
  have n2 := heap_alloc_new w (.cells #[.slice B q cB] 35)
  obtain ⟨u', w', r1, r2, r3, r4⟩ := append_g Try.underlying36 info35 rfl (by decide) o2 (by simp; omega) (a := ⟨w.heap.size, 0, none⟩) (u := .slice B q cB) rfl (by rw [cell_of_row _ _ _ _ _ _ n2]; rfl) hs ty
  obtain ⟨A', cap', rfl⟩ := ownsRow_form r2
  refine ⟨A', cap', w', r1, o1.kept r3 ?_, ⟨us ++ [.slice B q cB], by simpa using r2, h2.append (RV.one hr)⟩, fun g hg e2 => ?_, (h.bel.trans (bA.mono hbase)).grown r3 (by simp; omega) (fun k hk => (o2.lt k hk).1)⟩
  · cases hv : v.ownBlock with
    | none => simp
    | some g => exact .inr fun e => h.ne g hv e.symm
  · rcases r4 g e2 with h4 | h4
    · exact h.ne g hg h4
    · have := (h.oi.lt g hg).2
      simp at h4; omega
/-- Numbers appended to one number. -/
theorem append_ints_grow {w : World} {g : Nat} {z : Int} (h : w.heap[g]? = some (.cells #[.int .i64 z] 3)) {B : Option Addr} {q c : Nat} {zs : List Int} (k : RI w B q c zs) (hq : 0 < q) (hs : q ≤ 1000) (ty : TypeId) :
    ∃ A' cap' w', (Builtin.append_ #[80, 80] ty #[.slice (some ⟨g, 0, none⟩) 1 1, .slice B q c]).run Try.prog w = .ok (.slice A' (1 + q) cap') w' ∧ RI w' A' (1 + q) cap' (z :: zs) ∧ Below w.heap.size w w' := by
  obtain ⟨i, hi, hinf⟩ := Option.map_eq_some_iff.1 info3
  simp only [Prod.mk.injEq] at hinf
  obtain ⟨bd, rfl, _⟩ := k.num (k := 0) hq
  have hl := k.len
  obtain ⟨v', w', r1, r2, r3⟩ := run_append_arg_grows (P := Try.prog) (ty := ty) w 80 3 i _ 1 8 Try.underlying80 hi hinf.1 hinf.2.1 hinf.2.2 rfl (by decide) ⟨g, 0, none⟩ 1 1 [.int .i64 z] rfl (fun t u ht => by
    cases t with
    | zero =>
      obtain rfl : Value.int .i64 z = u := by simpa using ht
      rw [add_at, cell_of_row _ _ _ _ _ _ h]; rfl
    | succ t => simp at ht) bd q c (iv zs) (by rw [iv_length, hl, Nat.mul_one]) (fun t u ht => by
    unfold iv at ht
    rw [List.getElem?_map] at ht
    obtain ⟨x, hx, rfl⟩ := Option.map_eq_some_iff.1 ht
    have htl := (List.getElem?_eq_some_iff.1 hx).1
    obtain ⟨bd', e, hc⟩ := k.num (k := t) (by omega)
    cases e
    rw [hc, gz_at htl, (List.getElem?_eq_some_iff.1 hx).2]) (by omega) (by unfold maxLen; omega) (by omega)
  obtain ⟨A', cap', rfl⟩ := ownsRow_form3 r2
  have e : [Value.int .i64 z] ++ iv zs = iv (z :: zs) := by simp [iv]
  rw [e] at r2
  exact ⟨A', cap', w', r1, RI.of_own r2 (by omega), (Below.refl _ _).grown r3 (Nat.le_refl _) (fun k hk => by cases hk)⟩
theorem append_rows_one {w : World} {g : Nat} {T : Option Addr} {lt ct : Nat} {r : List UInt8} (h : w.heap[g]? = some (.cells #[.slice T lt ct] 35)) (hr : RS w T lt ct r) {B : Option Addr} {q c : Nat} {m : List (List UInt8)} (k : RD w B q c m) (hq : 0 < q) (hs : q ≤ 900) (ty : TypeId) :
    ∃ A' cap' w', (Builtin.append_ #[36, 36] ty #[.slice (some ⟨g, 0, none⟩) 1 1, .slice B q c]).run Try.prog w = .ok (.slice A' (1 + q) cap') w' ∧ RD w' A' (1 + q) cap' (r :: m) ∧ Below w.heap.size w w' := by
  obtain ⟨bd, us, rfl, k1, k2, k3⟩ := k.vals hq
  obtain ⟨A', cap', w', r1, r2, r3⟩ := append_vals_grow (w := w) (ad := ⟨g, 0, none⟩) (n := 1) (cap := 1) (us := [.slice T lt ct]) rfl (fun t u ht => by
    cases t with
    | zero =>
      obtain rfl : Value.slice T lt ct = u := by simpa using ht
      rw [add_at, cell_of_row _ _ _ _ _ _ h]; rfl
    | succ t => simp at ht) (bd := bd) (m := q) (cb := c) (vs := us) k2 k3 (by omega) (by omega) ty
  have hv := ((RV.one hr).append k1).below r3
  exact ⟨A', cap', w', r1, RD.of_own r2 hv (by omega), r3⟩
/-- The numbers of the pieces behind the slices. -/
def upZ (k i : Nat) : List Int := (List.range i).map fun t => ((k + t : Nat) : Int)
theorem upZ_succ (k i : Nat) : upZ k (i + 1) = upZ k i ++ [((k + i : Nat) : Int)] := by unfold upZ; rw [List.range_succ, List.map_append]; rfl
theorem upZ_length (k i : Nat) : (upZ k i).length = i := by simp [upZ]
theorem upZ_at {k i t : Nat} (h : t < i) : gz (upZ k i) t = ((k + t : Nat) : Int) := by rw [gz_at (by rw [upZ_length]; exact h)]; simp [upZ]
def upP (k n : Nat) (m : List (List UInt8)) (i : Nat) : List (List UInt8) := (List.range i).map fun t => gr (encB k n m) (k + t)
theorem upP_succ (k n : Nat) (m : List (List UInt8)) (i : Nat) : upP k n m (i + 1) = upP k n m i ++ [gr (encB k n m) (k + i)] := by unfold upP; rw [List.range_succ, List.map_append]; rfl
theorem upP_length (k n : Nat) (m : List (List UInt8)) (i : Nat) : (upP k n m i).length = i := by simp [upP]
theorem upP_row {k n : Nat} {m : List (List UInt8)} {i t : Nat} (h : t < i) : gr (upP k n m i) t = gr (encB k n m) (k + t) := by
  rw [gr_at (by rw [upP_length]; exact h)]; simp [upP]
theorem gr_cons (r : List UInt8) (m : List (List UInt8)) (i : Nat) : gr (r :: m) (i + 1) = gr m i := by unfold gr; simp
theorem gz_cons (z : Int) (zs : List Int) (i : Nat) : gz (z :: zs) (i + 1) = gz zs i := by unfold gz; simp
theorem less_atok {k n : Nat} (hk1 : 1 ≤ k) (h2 : 2 * k ≤ n) : AtOk n (0 :: upZ k (k - 1)) := by
  refine ⟨fun z hz => ?_, ?_⟩
  · rcases List.mem_cons.1 hz with e | e
    · rw [e]; omega
    · unfold upZ at e
      rw [List.mem_map] at e
      obtain ⟨t, ht, rfl⟩ := e
      rw [List.mem_range] at ht
      omega
  · rw [List.nodup_cons]
    refine ⟨fun e => ?_, ?_⟩
    · unfold upZ at e
      rw [List.mem_map] at e
      obtain ⟨t, ht, e⟩ := e
      omega
    · unfold upZ
      rw [List.nodup_iff_pairwise_ne, List.pairwise_map]
      refine List.Pairwise.imp (fun {a b} hne e => hne (by omega)) (List.nodup_iff_pairwise_ne.1 List.nodup_range)
theorem sumB_unit {k : Nat} {x : List (List UInt8)} (hx : x.length = k) (ha : Alike x) {i : Nat} (hi : i < k) : sumB ((List.range k).map (codeM k i)) x = gr x i := by
  obtain ⟨L, hL⟩ : ∃ L, L = (x.headD []).length := ⟨_, rfl⟩
  rw [sumB_rows hx hL.symm]
  refine row_ext (L := L) (by simp) (by rw [head_len ha (by omega), hL]) fun j hj => ?_
  rw [gb_range _ hj, sm_one hi (fun t ht hne => by unfold codeM; rw [if_pos hi]; unfold Lin.unit; rw [if_neg (fun e => hne e.symm), gm_zero_left])]
  unfold codeM
  rw [if_pos hi]
  simp [Lin.unit, one_gm]
/-- What comes of fewer pieces and a text. -/
theorem less_dec {k n : Nat} {m : List (List UInt8)} {text : List UInt8} (hk1 : 1 ≤ k) (h2 : 2 * k ≤ n) (hm : m.length = k) (ha : Alike m) (ht : text.length = (gr m 0).length) {x : List (List UInt8)} {ev : Int} (h : DecP k n (0 :: upZ k (k - 1)) (text :: upP k n m (k - 1)) x ev) :
    ev = 0 ∧ x.length = k ∧ Alike x ∧ gr x 0 = text ∧ ∀ t, t < k - 1 → gr (encB k n x) (k + t) = gr (upP k n m (k - 1)) t := by
  have hmem : ∀ r ∈ text :: upP k n m (k - 1), r.length = (gr m 0).length := fun r hr => by
    rcases List.mem_cons.1 hr with e | e
    · rw [e]; exact ht
    · unfold upP at e
      rw [List.mem_map] at e
      obtain ⟨t, htt, rfl⟩ := e
      rw [List.mem_range] at htt
      rw [encB_row _ (by omega), PRsEncode.gr_zero]; simp [sumB]
  have hal := alike_len_of hmem
  have hlen : (text :: upP k n m (k - 1)).length = k := by simp [upP_length]; omega
  have hlz : (0 :: upZ k (k - 1)).length = k := by simp [upZ_length]; omega
  have hw : docWrong k n (0 :: upZ k (k - 1)) (text :: upP k n m (k - 1)) = 0 := docWrong_0 ⟨by rw [hlen, hlz], hal⟩ (less_atok hk1 h2) (by omega)
  rcases h with ⟨h1, _⟩ | ⟨_, hv, S, _, h4, rfl⟩
  · exact absurd hw h1
  · have hx := decB_length k k S (text :: upP k n m (k - 1))
    have hxa := decB_alike k k S (text :: upP k n m (k - 1))
    refine ⟨hv, hx, hxa, ?_, fun t htt => ?_⟩
    · have := enc_dec (zs := 0 :: upZ k (k - 1)) hk1 (by omega) hal h4 (a := 0) (by omega)
      rw [show (gz (0 :: upZ k (k - 1)) 0).toNat = 0 from rfl, sumB_unit hx hxa (by omega)] at this
      exact this
    · have := enc_dec (zs := 0 :: upZ k (k - 1)) hk1 (by omega) hal h4 (a := t + 1) (by omega)
      rw [gz_cons, upZ_at htt, Int.toNat_natCast, gr_cons] at this
      rw [encB_row _ (by omega)]
      exact this
end Go.Proofs.Ytoijjlpkoniipaa
