/- The law MatrixRanks: plain; a list made of another one. -/
import Derived.Test.YtoijjlpkoniipaaRankMem
set_option linter.unusedVariables false
set_option linter.unusedSimpArgs false
namespace Go.Proofs.Ytoijjlpkoniipaa
open Go.RowKit Go.Proofs.YtoijjlpkoniipaaW.PrintWords Go.Proofs.YtoijjlpkoniipaaW.PrintLast Gf Lin
theorem rank_is {m : List (List UInt8)} {r : Nat} (h : Rgt m) (hp : RankPost m r) : IsRank m.length (gr m 0).length (fn m) r := by
  rcases hp with ⟨_, h1⟩ | ⟨h1, _⟩
  · exact h1
  · exact absurd h h1
theorem rank_same {m : List (List UInt8)} {r s : Nat} (h : Rgt m) (hr : RankPost m r) (hs : RankPost m s) : r = s := (rank_is h hr).unique (rank_is h hs)
theorem isRank_eq {n m r : Nat} {A B : Lin.M} (h : IsRank n m A r) (he : ∀ i, i < n → ∀ j, j < m → A i j = B i j) : IsRank n m B r :=
  h.of_rows (fun i hi => (Sp.self (V := B) hi).congr (fun j hj => he i hi j hj)) (fun i hi => (Sp.self (V := A) hi).congr (fun j hj => (he i hi j hj).symm))
theorem rank_prod_is {a b : List (List UInt8)} {r : Nat} (hf : Fit a b) (hr : RankPost (prod a b) r) : IsRank a.length (gr b 0).length (fun i j => sm b.length (fun t => gm (fn a i t) (fn b t j))) r := by
  have h1 := rank_is (prod_rgt hf) hr
  have e1 : (prod a b).length = a.length := by unfold prod; simp
  have e2 : (gr (prod a b) 0).length = (gr b 0).length := by unfold prod; exact len0_rowsOf _ hf.ra.n1
  rw [e1, e2] at h1
  exact isRank_eq h1 (fun i hi j hj => by unfold prod; rw [fn_rowsOf _ hi hj]; rfl)
theorem rank_prod_a {a b : List (List UInt8)} {r ra : Nat} (hf : Fit a b) (hr : RankPost (prod a b) r) (hra : RankPost a ra) : r ≤ ra := by
  have h3 := rank_is hf.ra hra
  rw [hf.l] at h3
  exact (rank_prod_is hf hr).mul_left h3
theorem rank_prod_b {a b : List (List UInt8)} {r rb : Nat} (hf : Fit a b) (hr : RankPost (prod a b) r) (hrb : RankPost b rb) : r ≤ rb := (rank_prod_is hf hr).mul_right (rank_is hf.rb hrb)
theorem twice_rgt {a : List (List UInt8)} (h : Rgt a) (hn : a.length ≤ 254) {k : Nat} (hk : k < a.length) : Rgt (a ++ [gr a k]) := by
  have h0 : gr (a ++ [gr a k]) 0 = gr a 0 := gr_append_left (by have := h.n1; omega)
  refine ⟨by simp, by simp; omega, by rw [h0]; exact h.c1, by rw [h0]; exact h.c2, fun i hi => ?_⟩
  rw [h0]
  have hi' : i < a.length + 1 := by simpa using hi
  by_cases hia : i < a.length
  · rw [gr_append_left hia]; exact h.all i hia
  · have : i = a.length := by omega
    subst this
    rw [gr_append_right (Nat.le_refl _) (by simp), Nat.sub_self]
    exact h.all k hk
theorem rank_twice {a : List (List UInt8)} (h : Rgt a) (hn : a.length ≤ 254) {k : Nat} (hk : k < a.length) {r s : Nat} (hr : RankPost (a ++ [gr a k]) r) (hs : RankPost a s) : r = s := by
  have h1 := rank_is (twice_rgt h hn hk) hr
  have h0 : gr (a ++ [gr a k]) 0 = gr a 0 := gr_append_left (by have := h.n1; omega)
  have hl : (a ++ [gr a k]).length = a.length + 1 := by simp
  rw [h0, hl] at h1
  have f1 : ∀ i, i < a.length → ∀ j, fn (a ++ [gr a k]) i j = fn a i j := fun i hi j => by unfold fn; rw [gr_append_left hi]
  have f2 : ∀ j, fn (a ++ [gr a k]) a.length j = fn a k j := fun j => by
    unfold fn
    rw [gr_append_right (Nat.le_refl _) (by simp), Nat.sub_self]
    rfl
  refine (h1.of_rows (n' := a.length) (B := fn a) (fun i hi => ?_) (fun i hi => ?_)).unique (rank_is h hs)
  · by_cases hia : i < a.length
    · exact (Sp.self (V := fn a) hia).congr (fun j _ => f1 i hia j)
    · have : i = a.length := by omega
      subst this
      exact (Sp.self (V := fn a) hk).congr (fun j _ => f2 j)
  · exact (Sp.self (n := a.length + 1) (V := fn (a ++ [gr a k])) (by omega)).congr (fun j _ => (f1 i hi j).symm)
theorem rank_min {a : List (List UInt8)} {r : Nat} (h : Rgt a) (hr : RankPost a r) : r ≤ a.length ∧ r ≤ (gr a 0).length := ⟨(rank_is h hr).le_rows, (rank_is h hr).le_cols⟩
theorem exec_append' {P : Program} {w w' : World} {ρ : Operand → Value} {o : Oper} {t tn : TypeId} {x y : Operand} {vx vy v : Value} (ho : o.op = .call { callee := .builtin .append, args := #[x, y], argTypes := #[t, tn] }) (hx : ρ x = vx) (hy : ρ y = vy) (hr : (Builtin.append_ #[t, tn] o.type #[vx, vy]).run P w = .ok v w') : (execOp ρ o).run P w = .ok (.value v) w' := by
  unfold execOp
  simp only [ho, resolve, invoke, builtin, Sem.run_bind, Sem.run_pure, Result.andThen_ok, List.map_toArray, List.map_cons, List.map_nil, hx, hy, hr]
/-- Rows appended to an empty list of its own. -/
theorem append_first {w : World} {base g : Nat} (hg : w.heap[g]? = some (.cells #[] 35)) (hb : base ≤ g) {ad : Addr} {n c : Nat} {us : List Value} (hu : us.length = n) (h1 : ∀ j u, us[j]? = some u → w.cell? (ad.add j) = some u) (h2 : ∀ u ∈ us, u.oneCell' = true) (hn : n ≤ 1000) (ty : TypeId) :
    ∃ v' w', (Builtin.append_ #[36, 36] ty #[.slice (some ⟨g, 0, none⟩) 0 0, .slice (some ad) n c]).run Try.prog w = .ok v' w' ∧ w'.ownsRow base 35 1 v' n us ∧ w.grownBy w' (some g) := by
  obtain ⟨i0, hi, hinf⟩ := Option.map_eq_some_iff.1 info35
  simp only [Prod.mk.injEq] at hinf
  have hlt : g < w.heap.size := (Array.getElem?_eq_some_iff.1 hg).1
  obtain ⟨v', w', r1, r2, r3, _⟩ := run_append_own (P := Try.prog) w base 36 ty 35 i0 _ 1 24 Try.underlying36 hi hinf.1 hinf.2.1 hinf.2.2 rfl (by decide) (.slice (some ⟨g, 0, none⟩) 0 0) 0 [] ⟨rfl, .inr ⟨g, 0, #[], rfl, hb, hg, Nat.le_refl _, by unfold maxLen; omega, rfl, rfl⟩⟩ ad n c us (by omega) h1 h2 (by unfold maxLen; omega) (by omega) (by omega)
  exact ⟨v', w', r1, by simpa using r2, r3⟩
end Go.Proofs.Ytoijjlpkoniipaa
