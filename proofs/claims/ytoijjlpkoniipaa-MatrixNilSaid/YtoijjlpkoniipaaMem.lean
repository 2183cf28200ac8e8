/- Words for memory that reads as bytes, rows of bytes, numbers; and the arguments of a law, opened to these words. -/
import Derived.Test.YtoijjlpkoniipaaTab
import Derived.ProofKit
import Derived.OpenShut
import Derived.Deep.Matrix
import Derived.Lib.SmallJoins
namespace Go.Proofs.Ytoijjlpkoniipaa
open Go.RowKit Go.Proofs.YtoijjlpkoniipaaW.PrintWords Gf Go.ChangeShapes Go.WideShapes

/-- Bytes as numbers. -/
def bs (l : List UInt8) : List Int := l.map fun x => (x.toNat : Int)
def bss (m : List (List UInt8)) : List (List Int) := m.map bs
@[simp] theorem bs_length (l : List UInt8) : (bs l).length = l.length := by simp [bs]
@[simp] theorem bss_length (m : List (List UInt8)) : (bss m).length = m.length := by simp [bss]
theorem bs_inj {a b : List UInt8} (h : bs a = bs b) : a = b := by
  unfold bs at h
  refine List.map_inj_right (f := fun x : UInt8 => (x.toNat : Int)) (fun x y e => ?_) |>.1 h
  exact UInt8.toNat_inj.1 (Int.ofNat.inj e)
theorem bss_inj {a b : List (List UInt8)} (h : bss a = bss b) : a = b := List.map_inj_right (fun _ _ e => bs_inj e) |>.1 h

abbrev KB : Kd Int := Kd.int .u8
abbrev KBB : Kd (List Int) := Kd.slice 5 (Kd.int .u8)
abbrev KI : Kd Int := Kd.int .i64

theorem u8_of {n : Int} (h : (Lit.int .u8 n).wf = true) : ∃ x : UInt8, n = (x.toNat : Int) := by
  have hb := bounds_u8 h
  refine ⟨UInt8.ofNat n.toNat, ?_⟩
  rw [UInt8.toNat_ofNat_of_lt' (by show n.toNat < 256; omega)]
  omega
theorem u8s_of : ∀ (zs : List Int), (∀ n ∈ zs, (Lit.int .u8 n).wf = true) → ∃ xs : List UInt8, zs = bs xs
  | [], _ => ⟨[], rfl⟩
  | z :: zs, h => by
    obtain ⟨x, hx⟩ := u8_of (h z (by simp))
    obtain ⟨xs, hxs⟩ := u8s_of zs (fun n hn => h n (by simp [hn]))
    exact ⟨x :: xs, by rw [hx, hxs]; rfl⟩

theorem C_ints {w : World} {k : IntKind} {A : Option Addr} {zs : List Int} (hm : zs.length ≤ 9223372036854775807) (h : 0 < zs.length → ∃ ad, A = some ad ∧ ∀ j, j < zs.length → w.cell? (ad.add j) = some (.int k (zs.getD j 0))) :
    Kd.C (Kd.int k) w A zs.length zs := Kd.C_of_reads (d := (0 : Int)) (h1 := fun _ => rfl) ⟨rfl, hm, h⟩

section
variable {H : Type} {enc : TypeId × Value → H} {W : World} {base : Nat} {held : Bool}
theorem open_kints {t e : TypeId} {k : IntKind} {a : Option Addr} {len cap : Nat} {d : DataW H} {p : List MemPlace} (ht : Try.prog.underlying t = some (.slice e)) (he : Try.prog.underlying e = some (.int k)) (hc : Try.prog.cellsOf e = 1)
    (h : DataW.Trod enc Try.prog W base (fun _ => true) held t (.slice a len cap) d p) :
    ∃ zs : List Int, len = zs.length ∧ zs.length ≤ cap ∧ Kd.C (Kd.int k) W a zs.length zs ∧ (∀ n ∈ zs, (Lit.int k n).wf = true) := by
  obtain ⟨fuel, hf⟩ := h
  rcases open_ints ht he hc hf with ⟨hcs, _⟩ | ⟨x, l, c, zs, hcs, _, hl, hm, hz, _, hcell, hwz⟩
  · simp [Value.cells] at hcs
    obtain ⟨rfl, rfl, rfl⟩ := hcs
    exact ⟨[], rfl, Nat.le_refl _, C_ints (by simp) (fun h => by simp at h), by simp⟩
  · simp [Value.cells] at hcs
    obtain ⟨rfl, rfl, rfl⟩ := hcs
    simp only [if_true] at hz
    have hlen : (zs.take len).length = len := by rw [List.length_take]; omega
    refine ⟨zs.take len, hlen.symm, by omega, C_ints (by unfold maxLen at hm; omega) (fun _ => ⟨x, rfl, fun j hj => ?_⟩), fun n hn => hwz n (List.mem_of_mem_take hn)⟩
    rw [hcell j (by omega)]
    simp only [List.getD_eq_getElem?_getD, List.getElem?_take]
    rw [if_pos (by omega)]
theorem open_bytes {t e : TypeId} {a : Option Addr} {len cap : Nat} {d : DataW H} {p : List MemPlace} (ht : Try.prog.underlying t = some (.slice e)) (he : Try.prog.underlying e = some (.int .u8)) (hc : Try.prog.cellsOf e = 1)
    (h : DataW.Trod enc Try.prog W base (fun _ => true) held t (.slice a len cap) d p) :
    ∃ xs : List UInt8, len = xs.length ∧ xs.length ≤ cap ∧ KB.C W a xs.length (bs xs) := by
  obtain ⟨zs, rfl, h1, h2, h3⟩ := open_kints ht he hc h
  obtain ⟨xs, rfl⟩ := u8s_of zs h3
  rw [bs_length] at h1 h2 ⊢
  exact ⟨xs, rfl, h1, h2⟩

theorem rows_pick {n : Nat} {P : Nat → List UInt8 → Prop} (h : ∀ r, r < n → ∃ xs, P r xs) : ∃ xss : List (List UInt8), xss.length = n ∧ ∀ r (hr : r < xss.length), P r xss[r] := by
  induction n with
  | zero => exact ⟨[], rfl, fun r hr => by simp at hr⟩
  | succ n ih =>
    obtain ⟨xss, hl, hx⟩ := ih (fun r hr => h r (by omega))
    obtain ⟨ys, hy⟩ := h n (by omega)
    refine ⟨xss ++ [ys], by simp [hl], fun r hr => ?_⟩
    by_cases hrn : r < xss.length
    · rw [List.getElem_append_left hrn]; exact hx r hrn
    · have hrn' : r = n := by simp at hr; omega
      subst hrn'
      rw [List.getElem_append_right (by omega)]
      simpa using hy
theorem open_rows {t e q : TypeId} {a : Option Addr} {len cap : Nat} {d : DataW H} {p : List MemPlace} (ht : Try.prog.underlying t = some (.slice e)) (he : Try.prog.underlying e = some (.slice q)) (hq : Try.prog.underlying q = some (.int .u8))
    (ce : Try.prog.cellsOf e = 1) (cq : Try.prog.cellsOf q = 1) (h : DataW.Trod enc Try.prog W base (fun _ => true) held t (.slice a len cap) d p) :
    ∃ xss : List (List UInt8), len = xss.length ∧ xss.length ≤ cap ∧ (Kd.slice q (Kd.int .u8)).C W a xss.length (bss xss) := by
  obtain ⟨fuel, hf⟩ := h
  rcases Go.Deep.open_int_rows ht he hq ce cq hf with ⟨hcs, _⟩ | ⟨x, l, c, A, L, C, Z, hcs, _, hl, hm, _, hr⟩
  · simp [Value.cells] at hcs
    obtain ⟨rfl, rfl, rfl⟩ := hcs
    exact ⟨[], rfl, Nat.le_refl _, rfl, by simp, fun h => by simp at h⟩
  · simp [Value.cells] at hcs
    obtain ⟨rfl, rfl, rfl⟩ := hcs
    have each : ∀ r, r < len → ∃ xs : List UInt8, xs.length = L r ∧ KB.C W (A r) xs.length (bs xs) := fun r hrl => by
      obtain ⟨_, h2, h3, h4, h5, h6, h7⟩ := hr r (by omega)
      obtain ⟨xs, hxs⟩ := u8s_of ((Z r).take (L r)) (fun n hn => h5 n (List.mem_of_mem_take hn))
      have hlen : ((Z r).take (L r)).length = L r := by rw [List.length_take]; omega
      have hx : xs.length = L r := by rw [← bs_length, ← hxs, hlen]
      refine ⟨xs, hx, ?_⟩
      have := C_ints (w := W) (k := .u8) (A := A r) (zs := bs xs) (by unfold maxLen at h3; rw [bs_length]; omega) (fun hp => by
        cases hA : A r with
        | none => have := h6 hA; rw [bs_length] at hp; omega
        | some a' =>
          refine ⟨a', rfl, fun j hj => ?_⟩
          rw [bs_length] at hj
          rw [(h7 a' hA).2 j (by omega), ← hxs]
          simp only [List.getD_eq_getElem?_getD, List.getElem?_take]
          rw [if_pos (by omega)])
      rwa [bs_length] at this
    obtain ⟨xss, hlen, hx⟩ := rows_pick each
    refine ⟨xss, hlen.symm, by omega, by simp, by unfold maxLen at hm; omega, fun _ => ⟨x, rfl, fun j q' hj => ?_⟩⟩
    have hjl : j < xss.length := by
      have := (List.getElem?_eq_some_iff.1 hj).1
      simpa using this
    have hq' : q' = bs xss[j] := by
      unfold bss at hj
      rw [List.getElem?_map, List.getElem?_eq_getElem hjl] at hj
      simpa using hj.symm
    obtain ⟨h8, h9⟩ := hx j hjl
    obtain ⟨h1, h2, _⟩ := hr j (by omega)
    subst hq'
    refine ⟨[.slice (A j) (L j) (C j)], rfl, ⟨A j, C j, by rw [bs_length, h8], by rw [bs_length, h8]; exact h2, by rw [bs_length]; exact h9⟩, fun i u hu => ?_⟩
    have hi : i = 0 := by
      have := (List.getElem?_eq_some_iff.1 hu).1
      simpa using this
    subst hi
    simp at hu
    subst hu
    show W.cell? (x.add (j * 1 + 0)) = _
    rw [Nat.mul_one, Nat.add_zero]; exact h1
end

/-- A sum of two bytes, closed to the walk's simp. -/
def ga (a b : UInt8) : UInt8 := a ^^^ b
theorem gm_ga (a b c : UInt8) : gm a (ga b c) = ga (gm a b) (gm a c) := gm_xor a b c
theorem u8_xor_all (a b : UInt8) : bits .xor .u8 (a.toNat : Int) (b.toNat : Int) = ((ga a b).toNat : Int) := by
  have e : ∀ x : UInt8, (BitVec.ofInt 8 (x.toNat : Int)).toNat = x.toNat := fun x => by
    rw [BitVec.ofInt_natCast, BitVec.toNat_ofNat]; exact Nat.mod_eq_of_lt x.toNat_lt
  show IntKind.u8.wrap ((BitVec.ofInt 8 (a.toNat : Int) ^^^ BitVec.ofInt 8 (b.toNat : Int)).toNat : Int) = _
  unfold ga
  rw [BitVec.toNat_xor, e, e, UInt8.toNat_xor]
  have := (a ^^^ b).toNat_lt
  rw [UInt8.toNat_xor] at this
  show (((a.toNat ^^^ b.toNat : Nat) : Int)) % 256 = _
  omega
theorem b_eq {a b : UInt8} (h : a = b) : ((a.toNat : Int) == (b.toNat : Int)) = true := by subst h; simp
theorem b_ne {a b : UInt8} (h : a ≠ b) : ((a.toNat : Int) == (b.toNat : Int)) = false := by
  rw [beq_eq_false_iff_ne]
  exact fun e => h (UInt8.toNat_inj.1 (Int.ofNat.inj e))

theorem below_drawn {w w' : World} (h : Drawn0 w w') : Below w.heap.size w w' := h.below
end Go.Proofs.Ytoijjlpkoniipaa
