/- The disk: Clone of sectors, Sync, Read. -/
import Derived.Test.YtomihbanpjedeaaDiskNew
import Derived.Deep.WholeRow
namespace Go.Proofs.Ytomihbanpjedeaa
open Go.RowKit
set_option linter.unusedSimpArgs false

theorem zsize78 : (Value.agg (Array.replicate 64 (.int .u8 0))).cells.size = 64 := by kernel_rfl
def Ext (F F' : Nat → Prop) (w w' : World) : Prop := ∀ k, F' k → F k ∨ (w.heap.size ≤ k ∧ k < w'.heap.size)
theorem Ext.refl (F : Nat → Prop) (w : World) : Ext F F w w := fun _ h => .inl h
theorem Ext.same (F : Nat → Prop) (w w' : World) : Ext F F w w' := fun _ h => .inl h
theorem Ext.trans {F F' F'' : Nat → Prop} {w w1 w2 : World} (h : Ext F F' w w1) (k : Ext F' F'' w1 w2) (hs : w.heap.size ≤ w1.heap.size) (hs' : w1.heap.size ≤ w2.heap.size) : Ext F F'' w w2 := fun i hi => by
  rcases k i hi with e | e
  · rcases h i e with e | e
    · exact .inl e
    · exact .inr ⟨e.1, by omega⟩
  · exact .inr ⟨by omega, e.2⟩
theorem own_cells {w : World} {base : Nat} {e : TypeId} {size g n c : Nat} {xs : List Value} (h : w.ownsRow base e size (.slice (some ⟨g, 0, none⟩) n c) n xs) : ∀ j u, xs[j]? = some u → w.cell? ((⟨g, 0, none⟩ : Addr).add j) = some u := h.cells rfl

set_option maxHeartbeats 2000000 in
set_option maxRecDepth 100000 in
theorem clone_sectors (g n c : Nat) (xs : List Value) (w : World) (h : w.ownsRow 0 78 64 (.slice (some ⟨g, 0, none⟩) n c) n xs) (hb : Bytes xs) (hn : n ≤ 2048) :
    Calls Try.prog 37 #[.slice (some ⟨g, 0, none⟩) n c] w fun e w' => ∃ g' c', e = .returned (.slice (some ⟨g', 0, none⟩) n c') ∧ w.heap.size ≤ g' ∧ g' < w'.heap.size ∧ w'.ownsRow 0 78 64 (.slice (some ⟨g', 0, none⟩) n c') n xs ∧ Below w.heap.size w w' := by
  obtain ⟨i0, hi, hz0, hz1, hz2⟩ := info78'
  have A : Hid (∀ j u, xs[j]? = some u → w.cell? ((⟨g, 0, none⟩ : Addr).add j) = some u) := own_cells h
  have hlen := h.1
  have h1 := hb.one
  have q72 : ∀ (w : World) (a : Option Addr) (n c n' c' : Nat), (binOp .eql 72 (.slice a n c) (.slice none n' c')).run Try.prog w = .ok (.bool a.isNone) w := fun w a n c n' c' => Lib.run_eql_slice_nil w _ _ a n c n' c' Try.underlying72
  clear h
  go_enter Try.func37, Try.ntmps37
  go_wp2_with (at_builtin; refine wpList_append_own _ rfl _ _ 72 rfl w.heap.size 78 i0 _ 64 64 Try.underlying72 hi hz0 hz1 hz2 zsize78 (by decide) _ _ _ rfl (World.ownsRow_made w #[] 0 (Nat.le_refl _) (Nat.zero_le _) (by simp)) ⟨g, 0, none⟩ n c xs rfl ?qc1 ?qc2 ?qc3 ?qc4 ?qc5 ?qc6 ?_)
  case qc1 => exact hlen
  case qc2 =>
    intro j u hj
    exact Lib.cell?_alloc_some _ (A.out j u hj)
  case qc3 => exact h1
  case qc4 => unfold maxLen; omega
  case qc5 => omega
  case qc6 => simp
  intro v' w1 hown hgrow hnil
  have hne : v' ≠ .slice none 0 0 := by simpa using hnil
  have ho : w1.ownsRow w.heap.size 78 64 v' n xs := by simpa using hown
  rcases ho.2 with ⟨e, _⟩ | ⟨g', cap, cur, rfl, hbg, hgg, rest⟩
  · exact absurd e hne
  have hlt := (Array.getElem?_eq_some_iff.1 hgg).1
  have hfin : w1.ownsRow 0 78 64 (.slice (some ⟨g', 0, none⟩) n cap) n xs := ⟨ho.1, .inr ⟨g', cap, cur, rfl, Nat.zero_le _, hgg, rest⟩⟩
  go_wp2
  go_ret
  exact ⟨g', cap, rfl, hbg, hlt, hfin, ((Below.refl _ w).alloc (Nat.le_refl _) _).grown hgrow (by simp) (by intro k hk; simp [Value.ownBlock] at hk; omega)⟩

def St.sync (s : St) : St := if s.dn then s else if s.burnt.dn then s.burnt else { s.burnt with sy := s.nw, pn := [] }
def St.syncE (s : St) : Int := if s.dn then 13 else if s.burnt.dn then 13 else 0
theorem St.burnt_nw (s : St) : s.burnt.nw = s.nw := by unfold St.burnt; split <;> (try split) <;> rfl
theorem St.burnt_sy (s : St) : s.burnt.sy = s.sy := by unfold St.burnt; split <;> (try split) <;> rfl
theorem St.burnt_pn (s : St) : s.burnt.pn = s.pn := by unfold St.burnt; split <;> (try split) <;> rfl

set_option maxHeartbeats 2000000 in
set_option maxRecDepth 100000 in
theorem sync_calls (F : Nat → Prop) (d n : Nat) (s : St) (w : World) (h : Dk w F d n s) (hn : n ≤ 2048) :
    Calls Try.prog 19 #[.pointer (some ⟨d, 0, none⟩)] w fun e w' => ∃ F', e = .returned (.int .i64 s.syncE) ∧ Dk w' F' d n s.sync ∧ Chg F w w' ∧ Ext F F' w w' := by
  obtain ⟨gs, gn, cs, cn, v, c0, c1, c2, c3, c4, _, hf⟩ := h.cells
  cases hd : s.dn with
  | true =>
    have e1 : s.sync = s := by unfold St.sync; rw [hd]; rfl
    have e2 : s.syncE = 13 := by unfold St.syncE; rw [hd]; rfl
    rw [e1, e2]
    rw [hd] at c4
    go_enter Try.func19, Try.ntmps19
    go_wp2
    go_ret
    exact ⟨F, rfl, h, Chg.refl _ _, Ext.refl _ _⟩
  | false =>
    rw [hd] at c4
    cases hb : s.burnt.dn with
    | true =>
      have e1 : s.sync = s.burnt := by unfold St.sync; rw [hd, hb]; rfl
      have e2 : s.syncE = 13 := by unfold St.syncE; rw [hd, hb]; rfl
      rw [e1, e2]
      clear e1 e2
      have hbc := burn_calls F d n s w h
      rw [hb] at hbc
      go_enter Try.func19, Try.ntmps19
      go_wp2_with fail
      refine hbc.mono ?_
      rintro e w1 ⟨rfl, hD, hc⟩
      go_wp2
      go_ret
      exact ⟨F, rfl, hD, hc, Ext.same _ _ _⟩
    | false =>
      have e1 : s.sync = { s.burnt with sy := s.nw, pn := [] } := by unfold St.sync; rw [hd, hb]; rfl
      have e2 : s.syncE = 0 := by unfold St.syncE; rw [hd, hb]; rfl
      rw [e1, e2]
      clear e1 e2
      have hbc := burn_calls F d n s w h
      rw [hb] at hbc
      go_enter Try.func19, Try.ntmps19
      go_wp2_with fail
      refine hbc.mono ?_
      rintro e w1 ⟨rfl, hD, hc⟩
      obtain ⟨gs1, gn1, cs1, cn1, v1, hdd, o1, o2, o3, f0, f1, f2, f3, hne, hok⟩ := hD
      have k1 : w1.cell? ⟨d, 1, none⟩ = some (.slice (some ⟨gn1, 0, none⟩) n cn1) := (cell_of_row _ d 1 _ _ _ hdd).trans rfl
      go_wp2_with fail
      refine (clone_sectors gn1 n cn1 s.burnt.nw w1 o2 hok.nb hn).mono ?_
      rintro e w2 ⟨g', c', rfl, hg1, hg2, og, hb2⟩
      have hdl := (Array.getElem?_eq_some_iff.1 hdd).1
      have hdd2 : w2.heap[d]? = _ := (hb2.block d hdl).trans hdd
      have k0 : w2.cell? ⟨d, 0, none⟩ = some (.slice (some ⟨gs1, 0, none⟩) n cs1) := (cell_of_row _ d 0 _ _ _ hdd2).trans rfl
      have fz : ∀ j, w2.frozen? ⟨d, j, none⟩ = false := fun j => frozen_of_row _ d j _ _ hdd2
      have fz0 := fz 0
      have fz2 := fz 2
      have k2 : (w2.setCell ⟨d, 0, none⟩ (.slice (some ⟨g', 0, none⟩) n c')).cell? ⟨d, 2, none⟩ = some v1 := (cell_of_row _ d 2 _ _ _ (heap_setCell_same w2 d 0 _ _ _ hdd2)).trans rfl
      have hd3 := heap_setCell_same _ d 2 _ _ (.slice none 0 0) (heap_setCell_same w2 d 0 _ _ (.slice (some ⟨g', 0, none⟩) n c') hdd2)
      have hblk : ∀ k, k ≠ d → ((w2.setCell ⟨d, 0, none⟩ (.slice (some ⟨g', 0, none⟩) n c')).setCell ⟨d, 2, none⟩ (.slice none 0 0)).heap[k]? = w2.heap[k]? := fun k hk => (Below.heap_setCell _ _ _ k hk).trans (Below.heap_setCell _ _ _ k hk)
      have hsz : ((w2.setCell ⟨d, 0, none⟩ (.slice (some ⟨g', 0, none⟩) n c')).setCell ⟨d, 2, none⟩ (.slice none 0 0)).heap.size = w2.heap.size := by simp
      have hchg : Chg F w ((w2.setCell ⟨d, 0, none⟩ (.slice (some ⟨g', 0, none⟩) n c')).setCell ⟨d, 2, none⟩ (.slice none 0 0)) :=
        hc.trans (F' := F) ((Chg.of_below hb2).trans (F' := F) ((Chg.set (i := 0) f0).trans (F' := F) (Chg.set (i := 2) f0) (fun i hi => .inl hi)) (fun i hi => .inl hi)) (fun i hi => .inl hi)
      have hfin : Dk ((w2.setCell ⟨d, 0, none⟩ (.slice (some ⟨g', 0, none⟩) n c')).setCell ⟨d, 2, none⟩ (.slice none 0 0)) (fun k => F k ∨ k = g') d n { s.burnt with sy := s.nw, pn := [] } := by
        generalize ((w2.setCell ⟨d, 0, none⟩ (.slice (some ⟨g', 0, none⟩) n c')).setCell ⟨d, 2, none⟩ (.slice none 0 0)) = w3 at hd3 hblk hsz hchg
        have kept : ∀ {v : Value} {size k : Nat} {xs : List Value}, w2.ownsRow 0 78 size v k xs → w3.ownsRow 0 78 size v k xs := by
          intro v size k xs ho
          refine ⟨ho.1, ?_⟩
          rcases ho.2 with hn | ⟨g, cap, cur, rfl, hb, hgg, rest⟩
          · exact .inl hn
          · refine .inr ⟨g, cap, cur, rfl, hb, ?_, rest⟩
            rw [hblk g (fun e' => by subst e'; rw [hdd2] at hgg; simp at hgg)]
            exact hgg
        have o22 : w2.ownsRow 0 78 64 (.slice (some ⟨gn1, 0, none⟩) n cn1) n s.burnt.nw := by
          refine ⟨o2.1, ?_⟩
          rcases o2.2 with hn | ⟨g, cap, cur, e, hb, hgg, rest⟩
          · exact .inl hn
          · exact .inr ⟨g, cap, cur, e, hb, (hb2.block g (Array.getElem?_eq_some_iff.1 hgg).1).trans hgg, rest⟩
        have hgn : gn1 < w1.heap.size := by
          rcases o2.2 with ⟨e, _⟩ | ⟨g, cap, cur, e, hb, hgg, rest⟩
          · simp at e
          · simp only [Value.slice.injEq, Option.some.injEq, Addr.mk.injEq, and_true, true_and] at e
            rw [e.1]; exact (Array.getElem?_eq_some_iff.1 hgg).1
        refine ⟨g', gn1, c', cn1, .slice none 0 0, ?_, ?_, kept o22, World.ownsRow_nil _ _ _ _, .inl f0, .inr rfl, .inl f2, (fun g hg => by simp [Value.ownBlock] at hg), by omega, ?_⟩
        · rw [hd3]; rfl
        · have := kept og; rw [St.burnt_nw] at this; exact this
        · exact ⟨by have := hok.nl; rw [St.burnt_nw] at this; exact this, hok.nl, by have := hok.nb; rw [St.burnt_nw] at this; exact this, hok.nb, (fun p hp => by cases hp), hok.f1, hok.f2⟩
      have hext : Ext F (fun k => F k ∨ k = g') w ((w2.setCell ⟨d, 0, none⟩ (.slice (some ⟨g', 0, none⟩) n c')).setCell ⟨d, 2, none⟩ (.slice none 0 0)) := fun k hk => by
        rcases hk with hk | rfl
        · exact .inl hk
        · exact .inr ⟨by have := hc.size; omega, by omega⟩
      clear hd3 hblk hsz
      go_wp2
      go_ret
      exact ⟨_, rfl, hfin, hchg, hext⟩
end Go.Proofs.Ytomihbanpjedeaa
