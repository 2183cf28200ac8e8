/- The document's disk, whole; what its acts that only turn its own block do. -/
import Derived.Test.YtomihbanpjedeaaRefCrash
namespace Go.Proofs.Ytomihbanpjedeaa
open Go.RowKit Go.Proofs.YtomihbanpjedeaaW.PrintLast
set_option linter.unusedSimpArgs false
structure Rk (w0 w : World) (R F : Nat → Prop) (x n : Nat) (sy nw : List Value) (pn : List (Nat × List Value)) (A : Option Addr) (cS : Nat) (P : Option Addr) (cp : Nat) (ps : List Ac) : Prop where
  sl : Sl w R A n cS sy
  own : w.ownsRow 0 43 6 (.slice P ps.length cp) ps.length (acts ps)
  hpn : pn = pnOf ps
  hnw : nw = nowOf pn sy
  pend : ∀ a ∈ ps, a.Pend w0 n
  fx : F x
  fP : ∀ g, (Value.slice P ps.length cp).ownBlock = some g → F g
  finn : ∀ i, F i → w0.heap.size ≤ i ∧ i < w.heap.size
  rinn : ∀ i, R i → ¬ F i ∧ w0.heap.size ≤ i ∧ i < w.heap.size
  bel : Below w0.heap.size w0 w
/-- Block x is the document's disk of n sectors, in state s; what turns is among F, its rows' blocks are among R. -/
def Rd (w0 w : World) (R F : Nat → Prop) (x n : Nat) (s : St) : Prop :=
  ∃ A cS P cp ps, Blk w x (.slice A n cS) (.slice P ps.length cp) s.fu s.dn ∧ Rk w0 w R F x n s.sy s.nw s.pn A cS P cp ps ∧ -9223372036854775808 ≤ s.fu ∧ s.fu ≤ 9223372036854775807
theorem Rk.chg {w0 w w' : World} {R F G : Nat → Prop} {x n : Nat} {sy nw : List Value} {pn : List (Nat × List Value)} {A P : Option Addr} {cS cp : Nat} {ps : List Ac} (h : Rk w0 w R F x n sy nw pn A cS P cp ps) (hg : Chg G w w') (h1 : ∀ i, R i → ¬ G i) (h2 : ∀ g, (Value.slice P ps.length cp).ownBlock = some g → ¬ G g) (h3 : ∀ i, G i → w0.heap.size ≤ i) :
    Rk w0 w' R F x n sy nw pn A cS P cp ps :=
  ⟨⟨h.sl.rw'.chg hg h1, h.sl.nil⟩, own_move h.own (fun g e => by
    obtain ⟨cu, hcu⟩ := own_type h.own e
    exact hg.block g (Array.getElem?_eq_some_iff.1 hcu).1 (h2 g e)), h.hpn, h.hnw, h.pend, h.fx, h.fP, fun i hi => ⟨(h.finn i hi).1, by have := (h.finn i hi).2; have := hg.size; omega⟩, fun i hi => ⟨(h.rinn i hi).1, (h.rinn i hi).2.1, by have := (h.rinn i hi).2.2; have := hg.size; omega⟩, hg.below h.bel h.bel.size h3⟩
theorem Rk.below {w0 w w' : World} {R F : Nat → Prop} {x n : Nat} {sy nw : List Value} {pn : List (Nat × List Value)} {A P : Option Addr} {cS cp : Nat} {ps : List Ac} (h : Rk w0 w R F x n sy nw pn A cS P cp ps) (hb : Below w.heap.size w w') : Rk w0 w' R F x n sy nw pn A cS P cp ps :=
  h.chg (G := fun _ => False) (Chg.of_below hb) (fun _ _ e => e) (fun _ _ e => e) (fun _ e => e.elim)
theorem Rk.one {w0 w w' : World} {R F : Nat → Prop} {x n : Nat} {sy nw : List Value} {pn : List (Nat × List Value)} {A P : Option Addr} {cS cp : Nat} {ps : List Ac} {a0 a1 : Value} {fu : Int} {dn : Bool} (h : Rk w0 w R F x n sy nw pn A cS P cp ps) (hB : Blk w x a0 a1 fu dn) (ho : One x w w') : Rk w0 w' R F x n sy nw pn A cS P cp ps :=
  h.chg ho.1 (fun i hi e => (h.rinn i hi).1 (by rw [e]; exact h.fx)) (fun g e q => by
    obtain ⟨cu, hcu⟩ := own_type h.own e
    exact type_ne hcu hB (by decide) q) (fun i e => by rw [e]; exact (h.finn x h.fx).1)
theorem Blk.below {w w' : World} {x : Nat} {a0 a1 : Value} {fu : Int} {dn : Bool} (h : Blk w x a0 a1 fu dn) (hb : Below w.heap.size w w') : Blk w' x a0 a1 fu dn := (hb.block x h.lt).trans h
theorem Rd.below {w0 w w' : World} {R F : Nat → Prop} {x n : Nat} {s : St} (h : Rd w0 w R F x n s) (hb : Below w.heap.size w w') : Rd w0 w' R F x n s := by
  obtain ⟨A, cS, P, cp, ps, h1, h2, h3⟩ := h
  exact ⟨A, cS, P, cp, ps, h1.below hb, h2.below hb, h3⟩
theorem Rd.chg {w0 w w' : World} {R F G : Nat → Prop} {x n : Nat} {s : St} (h : Rd w0 w R F x n s) (hg : Chg G w w') (hR : ∀ i, R i → ¬ G i) (hF : ∀ i, F i → ¬ G i) (h3 : ∀ i, G i → w0.heap.size ≤ i) : Rd w0 w' R F x n s := by
  obtain ⟨A, cS, P, cp, ps, h1, h2, h4⟩ := h
  exact ⟨A, cS, P, cp, ps, (hg.block x h1.lt (hF _ h2.fx)).trans h1, h2.chg hg hR (fun g e => hF g (h2.fP g e)) h3, h4⟩
theorem Rd.bel {w0 w : World} {R F : Nat → Prop} {x n : Nat} {s : St} (h : Rd w0 w R F x n s) : Below w0.heap.size w0 w := by
  obtain ⟨A, cS, P, cp, ps, h1, h2, h3⟩ := h
  exact h2.bel
theorem Rd.finn {w0 w : World} {R F : Nat → Prop} {x n : Nat} {s : St} (h : Rd w0 w R F x n s) : ∀ i, F i → w0.heap.size ≤ i ∧ i < w.heap.size := by
  obtain ⟨A, cS, P, cp, ps, h1, h2, h3⟩ := h
  exact h2.finn
theorem Rd.rinn {w0 w : World} {R F : Nat → Prop} {x n : Nat} {s : St} (h : Rd w0 w R F x n s) : ∀ i, R i → ¬ F i ∧ w0.heap.size ≤ i ∧ i < w.heap.size := by
  obtain ⟨A, cS, P, cp, ps, h1, h2, h3⟩ := h
  exact h2.rinn
/-- What an act of the document's disk leaves. -/
def RPost (w0 w : World) (R F : Nat → Prop) (x n : Nat) (s' : St) (ev : Int) (e : Ending) (w' : World) : Prop :=
  ∃ R' F', e = .returned (.int .i64 ev) ∧ Rd w0 w' R' F' x n s' ∧ Chg F w w' ∧ Ext F F' w w' ∧ Ext R R' w w'
/-- Only the fuse and 'down' turn. -/
theorem Rd.turn {w0 w w1 w2 : World} {R F : Nat → Prop} {x n : Nat} {s : St} {A P : Option Addr} {cS cp : Nat} {ps : List Ac} (hB : Blk w x (.slice A n cS) (.slice P ps.length cp) s.fu s.dn) (hk : Rk w0 w R F x n s.sy s.nw s.pn A cS P cp ps) (hb : Below w.heap.size w w1) (ho : One x w1 w2) {fu : Int} {dn : Bool} (h2 : Blk w2 x (.slice A n cS) (.slice P ps.length cp) fu dn)
    (hf1 : -9223372036854775808 ≤ fu) (hf2 : fu ≤ 9223372036854775807) {s' : St} (hs : s' = { s with fu := fu, dn := dn }) {ev : Int} : RPost w0 w R F x n s' ev (.returned (.int .i64 ev)) w2 := by
  subst hs
  refine ⟨R, F, rfl, ⟨A, cS, P, cp, ps, h2, (hk.below hb).one (hB.below hb) ho, hf1, hf2⟩, (Chg.of_below hb).trans (F' := fun i => i = x) ho.1 (fun i e => .inl (by rw [e]; exact hk.fx)), Ext.same _ _ _, Ext.same _ _ _⟩
theorem burnt_eq (s : St) : s.burnt = { s with fu := s.burnt.fu, dn := s.burnt.dn } := by
  have h1 := s.burnt_nw
  have h2 := s.burnt_sy
  have h3 := s.burnt_pn
  cases hb : s.burnt
  rw [hb] at h1 h2 h3
  simp only at h1 h2 h3 ⊢
  rw [h1, h2, h3]
theorem burnt_fu {s : St} (h1 : -9223372036854775808 ≤ s.fu) (h2 : s.fu ≤ 9223372036854775807) : -9223372036854775808 ≤ s.burnt.fu ∧ s.burnt.fu ≤ 9223372036854775807 := by
  unfold St.burnt
  split
  · exact ⟨h1, h2⟩
  · split
    · exact ⟨by simp only; omega, by simp only; omega⟩
    · exact ⟨h1, h2⟩
theorem nowOf_snoc (pn : List (Nat × List Value)) (q : Nat × List Value) (xs : List Value) : nowOf (pn ++ [q]) xs = put (nowOf pn xs) q.1 q.2 := by
  have hpre : ∀ i, i ≤ pn.length → nowTo (pn ++ [q]) xs i = nowTo pn xs i := by
    intro i
    induction i with
    | zero => intro _; rfl
    | succ i ih =>
      intro hi
      show put _ _ _ = put _ _ _
      rw [ih (by omega)]
      have : (pn ++ [q]).getD i (0, []) = pn.getD i (0, []) := by simp [List.getD, List.getElem?_append_left (show i < pn.length by omega)]
      rw [this]
  unfold nowOf
  rw [List.length_append, List.length_singleton]
  show put (nowTo (pn ++ [q]) xs pn.length) _ _ = _
  rw [hpre _ (Nat.le_refl _)]
  have : (pn ++ [q]).getD pn.length (0, []) = q := by simp [List.getD]
  rw [this]
theorem build_acts (a : Ac) (W : World) : (Instr.buildSlice 34 1 #[(0, a.val)]).run Try.prog W = .ok (.slice (some ⟨W.heap.size, 0, none⟩) 1 1) (W.alloc (.cells a.cells.toArray 43)) := by
  obtain ⟨i0, hi, h⟩ := Option.map_eq_some_iff.1 info43
  simp only [Prod.mk.injEq] at h
  exact build_list (S := 6) (cs := a.cells) Try.underlying34 (fun W => by simp [sizeOf, typeInfo, hi, h.2.1]) (fun W => by simp [zeroValue, typeInfo, hi, h.1]; rfl) (by decide) (by decide) rfl W
theorem append_acts {w : World} {v : Value} {n : Nat} {xs : List Value} (ho : w.ownsRow 0 43 6 v n xs) {a : Addr} {cs : List Value} (hl : cs.length = 6) (h1 : ∀ u ∈ cs, u.oneCell' = true) (hc : ∀ j u, cs[j]? = some u → w.cell? (a.add j) = some u) (hs : n ≤ 1000000) (ty : TypeId) :
    ∃ v' w', (Builtin.append_ #[34, 34] ty #[v, .slice (some a) 1 1]).run Try.prog w = .ok v' w' ∧ w'.ownsRow 0 43 6 v' (n + 1) (xs ++ cs) ∧ w.grownBy w' v.ownBlock ∧ (∀ g, v'.ownBlock = some g → v.ownBlock = some g ∨ (w.heap.size ≤ g ∧ g < w'.heap.size)) := by
  obtain ⟨i0, hi, h⟩ := Option.map_eq_some_iff.1 info43
  simp only [Prod.mk.injEq] at h
  obtain ⟨hz0, hz1, hz2⟩ := h
  have hz : (Value.agg #[.int .i64 0, .int .i64 0, .slice none 0 0, .int .u64 0, .int .i64 0, .int .i64 0]).cells.size = 6 := by kernel_rfl
  rcases ho.2 with ⟨rfl, rfl⟩ | ⟨g, cap, cur, rfl, hbg, hg, hnc, hcm, hcs, htake⟩
  · have ho' : w.ownsRow w.heap.size 43 6 (.slice none 0 0) 0 xs := ⟨ho.1, .inl ⟨rfl, rfl⟩⟩
    obtain ⟨v', w', r1, r2, r3, r4⟩ := run_append_own (P := Try.prog) w w.heap.size 34 ty 43 i0 _ 6 64 Try.underlying34 hi hz0 hz1 hz2 hz (by decide) _ 0 xs ho' a 1 1 cs (by omega) hc h1 (by unfold maxLen; omega) (by omega) (Nat.le_refl _)
    refine ⟨v', w', r1, ?_, r3, fun g hg => .inr (r2.lt g hg)⟩
    refine ⟨r2.1, ?_⟩
    rcases r2.2 with hq | ⟨g, cap, cur, e, hb, rest⟩
    · exact .inl hq
    · exact .inr ⟨g, cap, cur, e, Nat.zero_le _, rest⟩
  · by_cases hroom : n + 1 ≤ cap
    · obtain ⟨w', r1, r2, r3⟩ := run_append_fits (P := Try.prog) (ty := ty) w 0 34 43 i0 6 Try.underlying34 hi hz1 g n cap xs ho a 1 1 cs (by omega) hc h1 hroom
      exact ⟨_, w', r1, r2, r3, fun g' hg' => .inl hg'⟩
    · obtain ⟨v', w', r1, r2, r3⟩ := run_append_arg_grows (P := Try.prog) (ty := ty) w 34 43 i0 _ 6 64 Try.underlying34 hi hz0 hz1 hz2 hz (by decide) ⟨g, 0, none⟩ n cap xs ho.1 (ho.cells rfl) a 1 1 cs (by omega) hc (by omega) (by unfold maxLen; omega) (by omega)
      refine ⟨v', w', r1, ?_, ⟨r3.os, r3.tape, r3.output, r3.size, fun k hk _ => r3.block k hk (by simp)⟩, fun g hg => .inr (r2.lt g hg)⟩
      refine ⟨r2.1, ?_⟩
      rcases r2.2 with hq | ⟨g, cap, cur, e, hb, rest⟩
      · exact .inl hq
      · exact .inr ⟨g, cap, cur, e, Nat.zero_le _, rest⟩
end Go.Proofs.Ytomihbanpjedeaa
