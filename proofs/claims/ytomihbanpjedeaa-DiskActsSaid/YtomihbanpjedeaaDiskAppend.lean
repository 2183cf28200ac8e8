/- The disk: Write. -/
import Derived.Test.YtomihbanpjedeaaDiskBuild
import Derived.Test.YtomihbanpjedeaaWLast
import Derived.OrdersHeld
namespace Go.Proofs.Ytomihbanpjedeaa
open Go.RowKit Go.Proofs.YtomihbanpjedeaaW.PrintLast
set_option linter.unusedSimpArgs false

theorem exec_build {P : Program} {w : World} {ρ : Operand → Value} {o : Oper} {t : TypeId} {ps : Array (Nat × Operand)} {parts : Array (Nat × Value)} {v : Value} (ho : o.op = .build t ps) (hp : (ps.map fun (i, x) => (i, ρ x)) = parts) (hr : (Instr.build t parts).run P w = .ok v w) : (execOp ρ o).run P w = .ok (.value v) w := by
  unfold execOp
  simp only [ho, hp, Sem.run_bind, Sem.run_pure, Result.andThen_ok, hr]
theorem exec_bs {P : Program} {w w' : World} {ρ : Operand → Value} {o : Oper} {t : TypeId} {n : Nat} {ps : Array (Nat × Operand)} {parts : Array (Nat × Value)} {v : Value} (ho : o.op = .buildSlice t n ps) (hp : (ps.map fun (i, x) => (i, ρ x)) = parts) (hr : (Instr.buildSlice t n parts).run P w = .ok v w') : (execOp ρ o).run P w = .ok (.value v) w' := by
  unfold execOp
  simp only [ho, hp, Sem.run_bind, Sem.run_pure, Result.andThen_ok, hr]
theorem exec_append {P : Program} {w w' : World} {ρ : Operand → Value} {o : Oper} {t tn : TypeId} {x y : Operand} {vx vy v : Value} (ho : o.op = .call { callee := .builtin .append, args := #[x, y], argTypes := #[t, tn] }) (hx : ρ x = vx) (hy : ρ y = vy) (hr : (Builtin.append_ #[t, tn] o.type #[vx, vy]).run P w = .ok v w') : (execOp ρ o).run P w = .ok (.value v) w' := by
  unfold execOp
  simp only [ho, resolve, invoke, builtin, Sem.run_bind, Sem.run_pure, Result.andThen_ok, List.map_toArray, List.map_cons, List.map_nil, hx, hy, hr]

/-- Bytes handed in: n of them. -/
def Bsl (w : World) (B : Addr) (ks : List Value) : Prop := Bytes ks ∧ ∀ j u, ks[j]? = some u → w.cell? (B.add j) = some u
def St.wrote (s : St) (k : Nat) (ks : List Value) : St := { s.burnt with nw := put s.nw k ks, pn := s.pn ++ [(k, ks)] }
theorem append_writes {w : World} {v : Value} {n : Nat} {xs : List Value} (ho : w.ownsRow 0 81 65 v n xs) {a : Addr} {cs : List Value} (hl : cs.length = 65) (h1 : ∀ u ∈ cs, u.oneCell' = true) (hc : ∀ j u, cs[j]? = some u → w.cell? (a.add j) = some u) (hs : n ≤ 1000000) (ty : TypeId) :
    ∃ v' w', (Builtin.append_ #[73, 73] ty #[v, .slice (some a) 1 1]).run Try.prog w = .ok v' w' ∧ w'.ownsRow 0 81 65 v' (n + 1) (xs ++ cs) ∧ w.grownBy w' v.ownBlock ∧ (∀ g, v'.ownBlock = some g → v.ownBlock = some g ∨ (w.heap.size ≤ g ∧ g < w'.heap.size)) := by
  obtain ⟨i0, hi, hz0, hz1, hz2⟩ := info81'
  have hz : (Value.agg (Array.replicate 1 (Value.int IntKind.i64 0) ++ Array.replicate 64 (Value.int IntKind.u8 0))).cells.size = 65 := by kernel_rfl
  have hlt : ∀ {w1 : World} {base : Nat} {v1 : Value} {n1 : Nat} {xs1 : List Value}, w1.ownsRow base 81 65 v1 n1 xs1 → ∀ g, v1.ownBlock = some g → g < w1.heap.size := fun h g hg => (h.lt g hg).2
  rcases ho.2 with ⟨rfl, rfl⟩ | ⟨g, cap, cur, rfl, hbg, hg, hnc, hcm, hcs, htake⟩
  · have ho' : w.ownsRow w.heap.size 81 65 (.slice none 0 0) 0 xs := ⟨ho.1, .inl ⟨rfl, rfl⟩⟩
    obtain ⟨v', w', r1, r2, r3, r4⟩ := run_append_own (P := Try.prog) w w.heap.size 73 ty 81 i0 _ 65 72 Try.underlying73 hi hz0 hz1 hz2 hz (by decide) _ 0 xs ho' a 1 1 cs (by omega) hc h1 (by unfold maxLen; omega) (by omega) (Nat.le_refl _)
    refine ⟨v', w', r1, ?_, r3, fun g hg => .inr (r2.lt g hg)⟩
    refine ⟨r2.1, ?_⟩
    rcases r2.2 with hq | ⟨g, cap, cur, e, hb, rest⟩
    · exact .inl hq
    · exact .inr ⟨g, cap, cur, e, Nat.zero_le _, rest⟩
  · by_cases hroom : n + 1 ≤ cap
    · obtain ⟨w', r1, r2, r3⟩ := run_append_fits (P := Try.prog) (ty := ty) w 0 73 81 i0 65 Try.underlying73 hi hz1 g n cap xs ho a 1 1 cs (by omega) hc h1 hroom
      exact ⟨_, w', r1, r2, r3, fun g' hg' => .inl hg'⟩
    · obtain ⟨v', w', r1, r2, r3⟩ := run_append_arg_grows (P := Try.prog) (ty := ty) w 73 81 i0 _ 65 72 Try.underlying73 hi hz0 hz1 hz2 hz (by decide) ⟨g, 0, none⟩ n cap xs ho.1 (ho.cells rfl) a 1 1 cs (by omega) hc (by omega) (by unfold maxLen; omega) (by omega)
      refine ⟨v', w', r1, ?_, ⟨r3.os, r3.tape, r3.output, r3.size, fun k hk _ => r3.block k hk (by simp)⟩, fun g hg => .inr (r2.lt g hg)⟩
      refine ⟨r2.1, ?_⟩
      rcases r2.2 with hq | ⟨g, cap, cur, e, hb, rest⟩
      · exact .inl hq
      · exact .inr ⟨g, cap, cur, e, Nat.zero_le _, rest⟩
end Go.Proofs.Ytomihbanpjedeaa
