/- Acts, opened. -/
import Derived.Test.YtomihbanpjedeaaOnceWalk
import Derived.Test.YtomihbanpjedeaaDiskWakes
import Derived.Lib.SmallJoins
namespace Go.Proofs.Ytomihbanpjedeaa
open Go.RowKit Go.ChangeShapes Go.WideShapes Go.Joins
/-- An act as it is handed in. -/
structure Ac where
  kind : Int
  at_ : Int
  A : Option Addr
  c : Nat
  p : Pl
  ks : List Value
instance : Inhabited Ac := ⟨⟨0, 0, none, 0, ⟨0, 0, 0⟩, []⟩⟩
def Ac.cells (a : Ac) : List Value := [.int .i64 a.kind, .int .i64 a.at_, .slice a.A a.ks.length a.c, .int .u64 (a.p.keep : Int), .int .i64 a.p.torn, .int .i64 a.p.cut]
def Ac.val (a : Ac) : Value := actV a.kind a.at_ a.A a.ks.length a.c a.p
structure Ac.Ok (w : World) (a : Ac) : Prop where
  at1 : -9223372036854775808 ≤ a.at_
  at2 : a.at_ ≤ 9223372036854775807
  k1 : -9223372036854775808 ≤ a.kind
  k2 : a.kind ≤ 9223372036854775807
  keep : a.p.keep < 18446744073709551616
  torn : -9223372036854775808 ≤ a.p.torn ∧ a.p.torn ≤ 9223372036854775807
  cut : -9223372036854775808 ≤ a.p.cut ∧ a.p.cut ≤ 9223372036854775807
  cap : a.ks.length ≤ a.c
  nil : a.A = none → a.c = 0
  bts : Bts w a.A a.ks
theorem Ac.Ok.below {w w1 : World} {a : Ac} (h : a.Ok w) (hb : Below w.heap.size w w1) : a.Ok w1 := { h with bts := h.bts.below hb }

section
variable {H : Type} {enc : TypeId × Value → H} {W : World} {base : Nat} {held : Bool}
theorem trod_bts {fuel : Nat} {cs : List Value} {x : DataW H × List MemPlace} (h : DataW.trod enc Try.prog W base (fun _ => true) held fuel 41 cs = some x) :
    ∃ (A : Option Addr) (c : Nat) (ks : List Value), cs = [.slice A ks.length c] ∧ ks.length ≤ c ∧ (A = none → c = 0) ∧ Bts W A ks := by
  rcases Deep.open_slice1 Try.underlying41 (by kernel_rfl) h with ⟨rfl, _⟩ | ⟨a, l, c, m, n, V, D, Q, rfl, hb, hl, hm, hmm, _, hel⟩
  · exact ⟨none, 0, [], rfl, Nat.le_refl _, fun _ => rfl, ⟨(fun u hu => by cases hu), fun h => by simp at h⟩⟩
  · simp only [if_true] at hmm
    subst hmm
    refine ⟨some a, m, (List.range l).map V, by simp, by simpa using hl, (fun h => by cases h), ⟨fun u hu => ?_, fun _ => ⟨a, rfl, fun j u hj => ?_⟩⟩⟩
    · obtain ⟨i, hi, rfl⟩ := List.mem_map.1 hu
      obtain ⟨z, hz, _, hw⟩ := DataW.trod_int Try.underlying5 (hel i (by have := List.mem_range.1 hi; omega)).2
      have hbd := bounds_u8 hw
      have hz' : V i = .int .u8 z := by simpa using hz
      refine ⟨UInt8.ofNat z.toNat, ?_⟩
      rw [hz', UInt8.toNat_ofNat_of_lt' (by show z.toNat < 256; omega)]
      congr 1
      omega
    · have hjl : j < l := by have := (List.getElem?_eq_some_iff.1 hj).1; simpa using this
      rw [List.getElem?_map, List.getElem?_range hjl] at hj
      obtain rfl : V j = u := by simpa using hj
      exact (hel j (by omega)).1
theorem trod_act {fuel : Nat} {cs : List Value} {x : DataW H × List MemPlace} (h : DataW.trod enc Try.prog W base (fun _ => true) held fuel 43 cs = some x) :
    ∃ a : Ac, cs = a.cells ∧ a.Ok W := by
  obtain ⟨y0, y1, y2, y3, n, _, hl, h0, h1, h2, h3⟩ := trod_struct4 Try.underlying43 h
  have l6 : cs.length = 6 := hl.trans (by kernel_rfl)
  obtain ⟨z0, z1, z2, m, _, _, g0, g1, g2⟩ := Deep.trod_struct3 Try.underlying37 h3
  match cs, l6 with
  | [c0, c1, c2, c3, c4, c5], _ =>
    have e3 : Try.prog.cellsOf 3 = 1 := by kernel_rfl
    have e41 : Try.prog.cellsOf 41 = 1 := by kernel_rfl
    have e35 : Try.prog.cellsOf 35 = 1 := by kernel_rfl
    have e37 : Try.prog.cellsOf 37 = 3 := by kernel_rfl
    simp only [e3, e41, e35, e37, List.drop, List.take] at h0 h1 h2 g0 g1 g2
    obtain ⟨kd, k0, _, w0⟩ := DataW.trod_int Try.underlying3 h0
    obtain ⟨at_, k1, _, w1⟩ := DataW.trod_int Try.underlying3 h1
    obtain ⟨kp, k3, _, w3⟩ := DataW.trod_int Try.underlying35 g0
    obtain ⟨tn, k4, _, w4⟩ := DataW.trod_int Try.underlying3 g1
    obtain ⟨ct, k5, _, w5⟩ := DataW.trod_int Try.underlying3 g2
    obtain ⟨A, c, ks, k2, q1, q2, q3⟩ := trod_bts h2
    simp only [List.cons.injEq, and_true] at k0 k1 k2 k3 k4 k5
    subst k0 k1 k2 k3 k4 k5
    have b0 := bounds_i64 w0
    have b1 := bounds_i64 w1
    have b4 := bounds_i64 w4
    have b5 := bounds_i64 w5
    have b3 : 0 ≤ kp ∧ kp < 18446744073709551616 := by
      have m0 : IntKind.u64.min = 0 := by decide
      have m1 : IntKind.u64.max = 18446744073709551615 := by decide
      simp [Lit.wf, m0, m1] at w3
      omega
    refine ⟨⟨kd, at_, A, c, ⟨kp.toNat, tn, ct⟩, ks⟩, ?_, ⟨b1.1, b1.2, b0.1, b0.2, by show kp.toNat < _; omega, b4, b5, q1, q2, q3⟩⟩
    have : ((kp.toNat : Nat) : Int) = kp := by omega
    simp [Ac.cells, this]
theorem open_act {r : Reach} {b0 : Nat} {v : Value} {d : DataW H} {p : List MemPlace} (hv : Value.okWide Try.prog W r b0 43 v) (h : DataW.Trod enc Try.prog W base (fun _ => true) held 43 v d p) :
    ∃ a : Ac, v = a.val ∧ a.Ok W := by
  obtain ⟨cs, rfl, _⟩ := okWide_struct Try.underlying43 hv
  obtain ⟨fuel, hf⟩ := h
  obtain ⟨a, ha, hk⟩ := trod_act hf
  refine ⟨a, ?_, hk⟩
  obtain ⟨l⟩ := cs
  simp only [Value.cells] at ha
  rw [ha]
  rfl
/-- A list of acts from A on. -/
def Acts (w : World) (A : Option Addr) (L : List Ac) : Prop := (0 < L.length → ∃ a, A = some a ∧ ∀ i ac, L[i]? = some ac → ac.Ok w ∧ ∀ j u, ac.cells[j]? = some u → w.cell? (a.add (i * 6 + j)) = some u)
theorem open_acts {a : Option Addr} {len cap : Nat} {d : DataW H} {p : List MemPlace} (h : DataW.Trod enc Try.prog W base (fun _ => true) held 34 (.slice a len cap) d p) :
    ∃ L : List Ac, len = L.length ∧ Acts W a L := by
  obtain ⟨fuel, hf⟩ := h
  rcases Deep.open_slice Try.underlying34 hf with ⟨hcs, _⟩ | ⟨x, l, c, m, n, D, Q, hcs, hb, hl, hm, hmm, _, hel⟩
  · simp [Value.cells] at hcs
    obtain ⟨rfl, rfl, rfl⟩ := hcs
    exact ⟨[], rfl, fun h => by simp at h⟩
  · simp [Value.cells] at hcs
    obtain ⟨rfl, rfl, rfl⟩ := hcs
    simp only [if_true] at hmm
    subst hmm
    have hc43 : Try.prog.cellsOf 43 = 6 := by kernel_rfl
    simp only [hc43] at hel
    obtain ⟨V, hV⟩ := Deep.choose_lt (α := Ac) (p := fun i (a : Ac) => W.cells? base (x.add (i * 6)) 6 = some a.cells ∧ a.Ok W) (n := m) (fun i hi => by
      obtain ⟨cs', h1, h2⟩ := hel i hi
      obtain ⟨a, rfl, ha⟩ := trod_act h2
      exact ⟨a, h1, ha⟩)
    refine ⟨(List.range len).map V, by simp, fun _ => ⟨x, rfl, fun i ac hi => ?_⟩⟩
    have hil : i < len := by have := (List.getElem?_eq_some_iff.1 hi).1; simpa using this
    rw [List.getElem?_map, List.getElem?_range hil] at hi
    obtain rfl : V i = ac := by simpa using hi
    obtain ⟨v1, v2⟩ := hV i (by omega)
    refine ⟨v2, fun j u hj => ?_⟩
    obtain ⟨_, c2, c3⟩ := World.cells?_some v1
    have hjl := (List.getElem?_eq_some_iff.1 hj).1
    have := c3 j (by omega)
    rw [hj, Addr.add_add] at this
    exact this
theorem Acts.below {w w1 : World} {A : Option Addr} {L : List Ac} (h : Acts w A L) (hb : Below w.heap.size w w1) : Acts w1 A L := fun hn => by
  obtain ⟨a, ha, hc⟩ := h hn
  exact ⟨a, ha, fun i ac hi => ⟨(hc i ac hi).1.below hb, fun j u hj => pw_cell_below hb ((hc i ac hi).2 j u hj)⟩⟩
end
end Go.Proofs.Ytomihbanpjedeaa
