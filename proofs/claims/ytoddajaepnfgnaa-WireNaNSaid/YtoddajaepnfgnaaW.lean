/- The plain law of orders: every value is like itself; two canonical floats are like each other just where they are the same to the last bit. -/
import Derived.Test.YtoddajaepnfgnaaV
namespace Go.Proofs.Ytoddajaepnfgnaa
open Go Go.RowKit

theorem compareBytes_self : ∀ l : List UInt8, Lib.compareBytes l l = 0
  | [] => rfl
  | x :: xs => by
    have h : ¬ x < x := UInt8.lt_irrefl x
    unfold Lib.compareBytes
    simp only [h, if_false]
    exact compareBytes_self xs

theorem order_self (f : Nat) : FloatKind.f64.format.order f f = some .eq ∨ FloatKind.f64.format.order f f = none := by
  unfold Ieee.Format.order
  cases FloatKind.f64.format.read f with
  | number s m i => left; simp [Ieee.Datum.order]
  | infinity s => left; simp [Ieee.Datum.order]
  | nan s m => right; simp [Ieee.Datum.order]

theorem floatsI_self (f : Nat) : floatsI f f = 0 := by
  unfold floatsI
  split
  · exact cmpI_self _
  · unfold cmpF nan flt fgt
    rcases order_self f with h | h <;> rw [h] <;> rfl

theorem V.ord_self (t : V) : t.ord t = 0 := by
  induction t using V.induct with
  | h k i f s l ih =>
  rw [V.ord_mk]
  simp only [V.k_mk, V.i_mk, V.f_mk, V.s_mk, V.l_mk, ne_eq, not_true, if_false, cmpI_self, floatsI_self, compareBytes_self]
  have hl : ∀ l : List V, (∀ x ∈ l, x.ord x = 0) → V.ords l l = 0 := by
    intro l
    induction l with
    | nil => intro _; rw [V.ords]
    | cons x xs ih2 =>
      intro h
      rw [V.ords, if_neg (by simp [h x (by simp)])]
      exact ih2 (fun y hy => h y (by simp [hy]))
  rw [hl l ih]
  simp

/-! Floats. -/
def infB : Nat := 9218868437227405312
theorem read_eq (a : Nat) : FloatKind.f64.format.read a =
    if a % 9223372036854775808 < 4503599627370496 then .number (a / 9223372036854775808 % 2 == 1) (a % 9223372036854775808) (-1074)
    else if a % 9223372036854775808 < infB then .number (a / 9223372036854775808 % 2 == 1) (4503599627370496 + a % 9223372036854775808 % 4503599627370496) (-1074 + ((a % 9223372036854775808 / 4503599627370496 - 1 : Nat) : Int))
    else if a % 9223372036854775808 = infB then .infinity (a / 9223372036854775808 % 2 == 1) else .nan (a / 9223372036854775808 % 2 == 1) (a % 9223372036854775808 - infB) := rfl

def decM (r : Nat) : Nat := if r < 4503599627370496 then r else 4503599627370496 + r % 4503599627370496
def decE (r : Nat) : Nat := r / 4503599627370496 - 1
theorem decM_lt (r : Nat) : decM r < 9007199254740992 := by unfold decM; split <;> omega
theorem decE_pos {r : Nat} (h : 0 < decE r) : 4503599627370496 ≤ decM r := by unfold decE at h; unfold decM; split <;> omega
theorem dec_inj {r s : Nat} (hm : decM r = decM s) (he : decE r = decE s) : r = s := by
  unfold decM decE at *; split at hm <;> split at hm <;> omega
theorem dec_lt {r s : Nat} (he : decE r < decE s) (h : decM r = decM s * 2 ^ (decE s - decE r)) : False := by
  have h1 := decE_pos (r := s) (by omega)
  have h2 := decM_lt r
  obtain ⟨k, hk⟩ : ∃ k, decE s - decE r = k + 1 := ⟨decE s - decE r - 1, by omega⟩
  rw [hk, Nat.pow_succ] at h
  have h3 : 1 ≤ 2 ^ k := Nat.one_le_two_pow
  have h4 : decM s * (2 ^ k * 2) = decM s * 2 ^ k * 2 := by rw [Nat.mul_assoc]
  have h5 : decM s * 1 ≤ decM s * 2 ^ k := Nat.mul_le_mul_left _ h3
  omega
theorem dec_eq {r s : Nat} (h : decM r * 2 ^ (decE r - min (decE r) (decE s)) = decM s * 2 ^ (decE s - min (decE r) (decE s))) : r = s := by
  rcases Nat.lt_trichotomy (decE r) (decE s) with hl | hl | hl
  · exact (dec_lt hl (by rw [Nat.min_eq_left (Nat.le_of_lt hl)] at h; simpa using h)).elim
  · rw [hl] at h; simp at h; exact dec_inj h hl
  · exact (dec_lt hl (by rw [Nat.min_eq_right (Nat.le_of_lt hl)] at h; simpa using h.symm)).elim

theorem read_num {a : Nat} (h : a % 9223372036854775808 < infB) : FloatKind.f64.format.read a = .number (a / 9223372036854775808 % 2 == 1) (decM (a % 9223372036854775808)) (-1074 + (decE (a % 9223372036854775808) : Int)) := by
  rw [read_eq]
  by_cases h1 : a % 9223372036854775808 < 4503599627370496
  · rw [if_pos h1]; unfold decM decE; rw [if_pos h1]; congr 1; omega
  · rw [if_neg h1, if_pos h]; unfold decM decE; rw [if_neg h1]

theorem compare_int_eq {x y : Int} (h : compare x y = .eq) : x = y := by
  simp only [compare, compareOfLessAndEq] at h
  split at h
  · cases h
  · split at h
    · assumption
    · cases h

theorem signed_eq (s : Bool) (m p : Nat) : Ieee.signed s m p = if s then -((m * 2 ^ p : Nat) : Int) else ((m * 2 ^ p : Nat) : Int) := by
  unfold Ieee.signed; rw [Nat.shiftLeft_eq]

/-- Equal floats are the same, or noughts. -/
theorem order_eq_inj {a b : Nat} (ha : a < 2 ^ 64) (hb : b < 2 ^ 64) (h : FloatKind.f64.format.order a b = some .eq) : a = b ∨ (a % 9223372036854775808 = 0 ∧ b % 9223372036854775808 = 0) := by
  unfold Ieee.Format.order at h
  by_cases h1 : a % 9223372036854775808 < infB <;> by_cases h2 : b % 9223372036854775808 < infB
  · rw [read_num h1, read_num h2] at h
    simp only [Ieee.Datum.order, Option.some.injEq] at h
    have h := compare_int_eq h
    generalize hr : a % 9223372036854775808 = r at *
    generalize hs : b % 9223372036854775808 = s at *
    have hmin : min (-1074 + (decE r : Int)) (-1074 + (decE s : Int)) = -1074 + ((min (decE r) (decE s) : Nat) : Int) := by omega
    rw [hmin, signed_eq, signed_eq] at h
    have e1 : (-1074 + (decE r : Int) - (-1074 + ((min (decE r) (decE s) : Nat) : Int))).toNat = decE r - min (decE r) (decE s) := by omega
    have e2 : (-1074 + (decE s : Int) - (-1074 + ((min (decE r) (decE s) : Nat) : Int))).toNat = decE s - min (decE r) (decE s) := by omega
    rw [e1, e2] at h
    have key : decM r * 2 ^ (decE r - min (decE r) (decE s)) = decM s * 2 ^ (decE s - min (decE r) (decE s)) → r = s := dec_eq
    have z1 : decM r * 2 ^ (decE r - min (decE r) (decE s)) = 0 → r = 0 := fun hz => by
      rcases Nat.mul_eq_zero.1 hz with hz | hz
      · unfold decM at hz; split at hz <;> omega
      · exact absurd hz (Nat.pos_iff_ne_zero.1 (Nat.two_pow_pos _))
    have z2 : decM s * 2 ^ (decE s - min (decE r) (decE s)) = 0 → s = 0 := fun hz => by
      rcases Nat.mul_eq_zero.1 hz with hz | hz
      · unfold decM at hz; split at hz <;> omega
      · exact absurd hz (Nat.pos_iff_ne_zero.1 (Nat.two_pow_pos _))
    generalize decM r * 2 ^ (decE r - min (decE r) (decE s)) = x at *
    generalize decM s * 2 ^ (decE s - min (decE r) (decE s)) = y at *
    by_cases c1 : a / 9223372036854775808 % 2 = 1 <;> by_cases c2 : b / 9223372036854775808 % 2 = 1
    · simp [c1, c2] at h
      have := key (by omega)
      left; omega
    · simp [c1, c2] at h
      right; exact ⟨z1 (by omega), z2 (by omega)⟩
    · simp [c1, c2] at h
      right; exact ⟨z1 (by omega), z2 (by omega)⟩
    · simp [c1, c2] at h
      have := key (by omega)
      left; omega
  · rw [read_num h1, read_eq b] at h
    have g2 : ¬ b % 9223372036854775808 < 4503599627370496 := by unfold infB at h2; omega
    rw [if_neg g2, if_neg h2] at h
    split at h
    · simp only [Ieee.Datum.order, Option.some.injEq] at h; split at h <;> cases h
    · simp [Ieee.Datum.order] at h
  · have g1 : ¬ a % 9223372036854775808 < 4503599627370496 := by unfold infB at h1; omega
    rw [read_eq a, if_neg g1, if_neg h1, read_num h2] at h
    split at h
    · simp only [Ieee.Datum.order, Option.some.injEq] at h; split at h <;> cases h
    · simp [Ieee.Datum.order] at h
  · rw [read_eq a, read_eq b] at h
    have g1 : ¬ a % 9223372036854775808 < 4503599627370496 := by unfold infB at h1; omega
    have g2 : ¬ b % 9223372036854775808 < 4503599627370496 := by unfold infB at h2; omega
    rw [if_neg g1, if_neg h1, if_neg g2, if_neg h2] at h
    split at h <;> split at h
    · simp only [Ieee.Datum.order, Option.some.injEq] at h
      rcases Nat.mod_two_eq_zero_or_one (a / 9223372036854775808) with c1 | c1 <;> rcases Nat.mod_two_eq_zero_or_one (b / 9223372036854775808) with c2 | c2
      · left; omega
      · rw [c1, c2] at h; exfalso; revert h; decide
      · rw [c1, c2] at h; exfalso; revert h; decide
      · left; omega
    all_goals simp [Ieee.Datum.order] at h

theorem nan_of {a : Nat} (h : infB < a % 9223372036854775808) : nan a = true := by
  unfold nan Ieee.Format.order
  rw [read_eq, if_neg (by unfold infB at h; omega), if_neg (by omega), if_neg (by omega)]
  simp [Ieee.Datum.order]

theorem canon_nan : nan 9221120237041090561 = true := nan_of (by decide)
theorem canonN_nan {a : Nat} (h : nan a = true) : canonN a = 9221120237041090561 := by unfold canonN; rw [if_pos h]
theorem canonN_num {a : Nat} (h : nan a = false) : canonN a = a := by unfold canonN; rw [h]; rfl
theorem canonN_idem (a : Nat) : canonN (canonN a) = canonN a := by
  cases h : nan a
  · rw [canonN_num h, canonN_num h]
  · rw [canonN_nan h, canonN_nan canon_nan]

theorem zero_of {a : Nat} (ha : a < 2 ^ 64) (h : feq a 0 = true) : a % 9223372036854775808 = 0 := by
  unfold feq at h
  have h : FloatKind.f64.format.order a 0 = some .eq := by simpa using h
  rcases order_eq_inj ha (by decide) h with e | e
  · subst e; rfl
  · exact e.1

theorem sgn_wrap (a : Nat) (ha : a < 2 ^ 64) : sgnB a = decide (9223372036854775808 ≤ a) := by
  unfold sgnB wrap64
  congr 1
  apply propext
  omega

/-- Canonical floats are alike just where their bits are. -/
theorem floats_bits {f g : Nat} (hf : f < 2 ^ 64) (hg : g < 2 ^ 64) : (floatsI (canonN f) (canonN g) = 0 ↔ canonN f = canonN g) := by
  constructor
  · intro h
    cases nf : nan f <;> cases ng : nan g
    · rw [canonN_num nf, canonN_num ng] at h ⊢
      unfold floatsI at h
      split at h
      · rename_i hz
        simp only [Bool.and_eq_true] at hz
        have z1 := zero_of hf hz.1
        have z2 := zero_of hg hz.2
        unfold signI at h
        rw [sgn_wrap f hf, sgn_wrap g hg] at h
        by_cases c1 : 9223372036854775808 ≤ f <;> by_cases c2 : 9223372036854775808 ≤ g
        · omega
        · simp [c1, c2, cmpI] at h
        · simp [c1, c2, cmpI] at h
        · omega
      · rename_i hz
        unfold cmpF at h
        rw [nf, ng] at h
        simp only [Bool.false_eq_true, if_false] at h
        have hn : FloatKind.f64.format.order f g = some .eq := by
          cases ho : FloatKind.f64.format.order f g with
          | none =>
            exfalso
            unfold nan at nf ng
            unfold Ieee.Format.order at *
            cases hr : FloatKind.f64.format.read f <;> cases hs : FloatKind.f64.format.read g <;> rw [hr, hs] at ho <;> rw [hr] at nf <;> rw [hs] at ng <;> simp [Ieee.Datum.order] at ho nf ng
          | some o =>
            unfold flt fgt at h
            rw [ho] at h
            cases o
            · simp at h
            · rfl
            · simp at h
        rcases order_eq_inj hf hg hn with e | e
        · exact e
        · exfalso
          apply hz
          have q : ∀ x, x < 2 ^ 64 → x % 9223372036854775808 = 0 → feq x 0 = true := by
            intro x hx h0
            have : x = 0 ∨ x = 9223372036854775808 := by omega
            rcases this with rfl | rfl <;> decide
          rw [q f hf e.1, q g hg e.2]; rfl
    · rw [canonN_num nf, canonN_nan ng] at h
      exfalso
      unfold floatsI at h
      have : feq 9221120237041090561 0 = false := by
        cases hq : feq 9221120237041090561 0 with
        | false => rfl
        | true => have := zero_of (by decide) hq; revert this; decide
      rw [this, Bool.and_false] at h
      unfold cmpF at h
      rw [nf, canon_nan] at h
      simp at h
    · rw [canonN_nan nf, canonN_num ng] at h
      exfalso
      unfold floatsI at h
      have : feq 9221120237041090561 0 = false := by
        cases hq : feq 9221120237041090561 0 with
        | false => rfl
        | true => have := zero_of (by decide) hq; revert this; decide
      rw [this, Bool.false_and] at h
      unfold cmpF at h
      rw [ng, canon_nan] at h
      simp at h
    · rw [canonN_nan nf, canonN_nan ng]
  · intro h
    rw [h]; exact floatsI_self _
end Go.Proofs.Ytoddajaepnfgnaa
