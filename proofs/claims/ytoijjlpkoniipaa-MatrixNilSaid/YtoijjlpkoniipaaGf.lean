/- The field of 256 bytes over two numbers with the polynomial 11D, as plain functions on UInt8: its products by logarithms, and that it is a field. No program in sight, no condition. -/
namespace Go.Proofs.Ytoijjlpkoniipaa.Gf

/-- A byte times the generator. -/
def step (x : UInt8) : UInt8 := (x <<< 1) ^^^ (if 128 ≤ x then 29 else 0)
/-- The powers of the generator. -/
def E : Nat → UInt8
  | 0 => 1
  | n + 1 => step (E n)
def logs : List Nat := [0, 0, 1, 25, 2, 50, 26, 198, 3, 223, 51, 238, 27, 104, 199, 75, 4, 100, 224, 14, 52, 141, 239, 129, 28, 193, 105, 248, 200, 8, 76, 113, 5, 138, 101, 47, 225, 36, 15, 33, 53, 147, 142, 218, 240, 18, 130, 69, 29, 181, 194, 125, 106, 39, 249, 185, 201, 154, 9, 120, 77, 228, 114, 166, 6, 191, 139, 98, 102, 221, 48, 253, 226, 152, 37, 179, 16, 145, 34, 136, 54, 208, 148, 206, 143, 150, 219, 189, 241, 210, 19, 92, 131, 56, 70, 64, 30, 66, 182, 163, 195, 72, 126, 110, 107, 58, 40, 84, 250, 133, 186, 61, 202, 94, 155, 159, 10, 21, 121, 43, 78, 212, 229, 172, 115, 243, 167, 87, 7, 112, 192, 247, 140, 128, 99, 13, 103, 74, 222, 237, 49, 197, 254, 24, 227, 165, 153, 119, 38, 184, 180, 124, 17, 68, 146, 217, 35, 32, 137, 46, 55, 63, 209, 91, 149, 188, 207, 205, 144, 135, 151, 178, 220, 252, 190, 97, 242, 86, 211, 171, 20, 42, 93, 158, 132, 60, 57, 83, 71, 109, 65, 162, 31, 45, 67, 216, 183, 123, 164, 118, 196, 23, 73, 236, 127, 12, 111, 246, 108, 161, 59, 82, 41, 157, 85, 170, 251, 96, 134, 177, 187, 204, 62, 90, 203, 89, 95, 176, 156, 169, 160, 81, 11, 245, 22, 235, 122, 117, 44, 215, 79, 174, 213, 233, 230, 231, 173, 232, 116, 214, 244, 234, 168, 80, 88, 175]
/-- Whose power a byte is (0 for 0). -/
def L (a : UInt8) : Nat := logs.getD a.toNat 0

/-! ### What is looked at byte by byte -/
/-- A step by shifts alone. -/
def sh (x : UInt8) : UInt8 := (x <<< 1) ^^^ ((x >>> 7) ^^^ (((x >>> 7) <<< 2) ^^^ (((x >>> 7) <<< 3) ^^^ ((x >>> 7) <<< 4))))
theorem step_sh_all : ∀ a : Fin 256, step (UInt8.ofNat a.val) = sh (UInt8.ofNat a.val) := by decide +kernel
theorem sh_xor (a b : UInt8) : sh (a ^^^ b) = sh a ^^^ sh b := by
  unfold sh
  simp only [UInt8.shiftLeft_xor, UInt8.shiftRight_xor]
  ac_rfl
theorem log_all : ∀ a : Fin 256, logs.getD a.val 0 < 255 ∧ (a.val ≠ 0 → E (logs.getD a.val 0) = UInt8.ofNat a.val) := by decide +kernel
theorem ne_one_all : ∀ n : Fin 255, n.val ≠ 0 → E n.val ≠ 1 := by decide +kernel
theorem E_255 : E 255 = 1 := by decide +kernel
theorem step_zero : step 0 = 0 := by decide +kernel
theorem step_inj_zero : ∀ a : Fin 256, step (UInt8.ofNat a.val) = 0 → UInt8.ofNat a.val = 0 := by decide +kernel

theorem ofNat_toNat (a : UInt8) : UInt8.ofNat a.toNat = a := by simp
theorem step_sh (a : UInt8) : step a = sh a := by
  have h := step_sh_all ⟨a.toNat, a.toNat_lt⟩
  simpa only [ofNat_toNat] using h
theorem step_xor (a b : UInt8) : step (a ^^^ b) = step a ^^^ step b := by rw [step_sh, step_sh, step_sh, sh_xor]
theorem L_lt (a : UInt8) : L a < 255 := (log_all ⟨a.toNat, a.toNat_lt⟩).1
theorem E_L {a : UInt8} (h : a ≠ 0) : E (L a) = a := by
  have hh := (log_all ⟨a.toNat, a.toNat_lt⟩).2 (fun e => h (UInt8.toNat_inj.1 (by simpa using e)))
  rw [ofNat_toNat] at hh; exact hh
theorem step_ne_zero {a : UInt8} (h : a ≠ 0) : step a ≠ 0 := by
  intro e
  have hh := step_inj_zero ⟨a.toNat, a.toNat_lt⟩
  simp only [ofNat_toNat] at hh
  exact h (hh e)
theorem xor_eq_zero {a b : UInt8} (h : a ^^^ b = 0) : a = b := by
  have : (a ^^^ b) ^^^ b = 0 ^^^ b := by rw [h]
  simpa [UInt8.xor_assoc] using this
theorem step_inj {a b : UInt8} (h : step a = step b) : a = b := by
  by_cases hab : a ^^^ b = 0
  · exact xor_eq_zero hab
  · exfalso
    refine step_ne_zero hab ?_
    rw [step_xor, h]; simp

/-! ### Steps, and powers -/
/-- n steps. -/
def st : Nat → UInt8 → UInt8
  | 0, x => x
  | n + 1, x => step (st n x)
theorem st_add (n m : Nat) (x : UInt8) : st (n + m) x = st n (st m x) := by
  induction n with
  | zero => simp [st]
  | succ n ih => rw [Nat.add_right_comm]; simp [st, ih]
theorem E_eq (n : Nat) : E n = st n 1 := by
  induction n with
  | zero => rfl
  | succ n ih => simp [E, st, ih]
theorem st_zero (n : Nat) : st n 0 = 0 := by
  induction n with
  | zero => rfl
  | succ n ih => simp [st, ih, step_zero]
theorem st_xor (n : Nat) (a b : UInt8) : st n (a ^^^ b) = st n a ^^^ st n b := by
  induction n with
  | zero => rfl
  | succ n ih => simp [st, ih, step_xor]
theorem st_inj (n : Nat) {a b : UInt8} (h : st n a = st n b) : a = b := by
  induction n with
  | zero => exact h
  | succ n ih => exact ih (step_inj h)
theorem E_add (n m : Nat) : E (n + m) = st n (E m) := by rw [E_eq, E_eq, st_add]
theorem E_ne_zero (n : Nat) : E n ≠ 0 := by
  induction n with
  | zero => decide
  | succ n ih => exact step_ne_zero ih
theorem E_period (n : Nat) : E (n + 255) = E n := by rw [E_add, E_255, E_eq]
theorem E_mul_period (n k : Nat) : E (n + 255 * k) = E n := by
  induction k with
  | zero => rfl
  | succ k ih => rw [show n + 255 * (k + 1) = n + 255 * k + 255 from by omega, E_period, ih]
theorem E_mod (n : Nat) : E (n % 255) = E n := by
  have := E_mul_period (n % 255) (n / 255)
  rw [Nat.mod_add_div] at this
  exact this.symm
theorem E_inj {n m : Nat} (hn : n < 255) (hm : m < 255) (h : E n = E m) : n = m := by
  have key : ∀ a b : Nat, a ≤ b → b < 255 → E a = E b → a = b := by
    intro a b hab hb he
    by_cases hd : b - a = 0
    · omega
    · exfalso
      refine ne_one_all ⟨b - a, by omega⟩ hd ?_
      have h2 : E b = st a (E (b - a)) := by rw [← E_add]; congr 1; omega
      rw [h2, E_eq] at he
      exact (st_inj a he).symm
  rcases Nat.le_total n m with hle | hle
  · exact key n m hle hm h
  · exact (key m n hle hn h.symm).symm
theorem L_E (n : Nat) : L (E n) = n % 255 :=
  E_inj (L_lt _) (Nat.mod_lt _ (by omega)) (by rw [E_L (E_ne_zero n), E_mod])
theorem L_zero : L 0 = 0 := rfl
theorem L_one : L 1 = 0 := rfl
theorem L_inj {a b : UInt8} (ha : a ≠ 0) (hb : b ≠ 0) (h : L a = L b) : a = b := by rw [← E_L ha, ← E_L hb, h]

/-! ### Products -/
def gm (a b : UInt8) : UInt8 := if a = 0 ∨ b = 0 then 0 else E (L a + L b)
def gi (a : UInt8) : UInt8 := if a = 0 then 0 else E (255 - L a)

theorem gm_zero_left (b : UInt8) : gm 0 b = 0 := by simp [gm]
theorem gm_zero_right (a : UInt8) : gm a 0 = 0 := by simp [gm]
theorem gm_ne {a b : UInt8} (ha : a ≠ 0) (hb : b ≠ 0) : gm a b = E (L a + L b) := by simp [gm, ha, hb]
theorem gm_comm (a b : UInt8) : gm a b = gm b a := by
  by_cases ha : a = 0
  · subst ha; simp [gm]
  · by_cases hb : b = 0
    · subst hb; simp [gm]
    · simp [gm, ha, hb, Nat.add_comm]
theorem gm_ne_zero {a b : UInt8} (ha : a ≠ 0) (hb : b ≠ 0) : gm a b ≠ 0 := by rw [gm_ne ha hb]; exact E_ne_zero _
theorem gm_st (n : Nat) (b : UInt8) : gm (E n) b = st n b := by
  by_cases hb : b = 0
  · subst hb; rw [gm_zero_right, st_zero]
  · rw [gm_ne (E_ne_zero n) hb, L_E, ← E_mod, Nat.mod_add_mod, E_mod, E_add, E_L hb]
theorem gm_assoc (a b c : UInt8) : gm a (gm b c) = gm (gm a b) c := by
  by_cases ha : a = 0
  · subst ha; simp [gm_zero_left]
  · by_cases hb : b = 0
    · subst hb; simp [gm_zero_left, gm_zero_right]
    · rw [gm_ne ha hb, gm_st, st_add, ← E_L ha, gm_st, ← gm_st (L b), E_L hb, E_L ha]
theorem gm_xor (a b c : UInt8) : gm a (b ^^^ c) = gm a b ^^^ gm a c := by
  by_cases ha : a = 0
  · subst ha; simp [gm_zero_left]
  · rw [← E_L ha, gm_st, gm_st, gm_st, st_xor]
theorem xor_gm (a b c : UInt8) : gm (a ^^^ b) c = gm a c ^^^ gm b c := by rw [gm_comm, gm_xor, gm_comm c a, gm_comm c b]
theorem gm_one (a : UInt8) : gm a 1 = a := by
  by_cases ha : a = 0
  · subst ha; rfl
  · rw [gm_ne ha (by decide), L_one, Nat.add_zero, E_L ha]
theorem one_gm (a : UInt8) : gm 1 a = a := by rw [gm_comm, gm_one]
theorem gm_gi {a : UInt8} (ha : a ≠ 0) : gm a (gi a) = 1 := by
  have h : gi a = E (255 - L a) := by simp [gi, ha]
  rw [h, gm_comm, gm_st]
  have h2 : st (255 - L a) (E (L a)) = 1 := by rw [← E_add, show 255 - L a + L a = 255 from by have := L_lt a; omega, E_255]
  rwa [E_L ha] at h2
theorem gi_gm {a : UInt8} (ha : a ≠ 0) : gm (gi a) a = 1 := by rw [gm_comm, gm_gi ha]
theorem gi_zero : gi 0 = 0 := rfl
theorem gi_ne_zero {a : UInt8} (ha : a ≠ 0) : gi a ≠ 0 := by simp [gi, ha, E_ne_zero]
/-- What times a is 1 is the inverse. -/
theorem gi_unique {a b : UInt8} (h : gm a b = 1) : b = gi a := by
  have ha : a ≠ 0 := by rintro rfl; rw [gm_zero_left] at h; exact absurd h (by decide)
  rw [← one_gm b, ← gi_gm ha, ← gm_assoc, h, gm_one]
theorem gm_eq_zero {a b : UInt8} : gm a b = 0 ↔ a = 0 ∨ b = 0 := by
  constructor
  · intro h
    rcases Classical.em (a = 0) with ha | ha
    · exact .inl ha
    · rcases Classical.em (b = 0) with hb | hb
      · exact .inr hb
      · exact absurd h (gm_ne_zero ha hb)
  · rintro (h | h) <;> subst h
    · exact gm_zero_left _
    · exact gm_zero_right _
theorem gm_two (a : UInt8) : gm a 2 = step a := by
  have h : (2 : UInt8) = E 1 := by decide
  rw [gm_comm, h, gm_st]; rfl

end Go.Proofs.Ytoijjlpkoniipaa.Gf
