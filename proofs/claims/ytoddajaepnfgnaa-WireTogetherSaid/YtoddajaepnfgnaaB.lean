/- Small functions of numbers. -/
import Derived.Test.YtoddajaepnfgnaaProg
import Derived.Test.YtoddajaepnfgnaaV
import Derived.KernelRfl
import Derived.WalkSpells
import Derived.WalkLawsBesides
import Derived.Laws.Externs
import Derived.Lib.Bytealg
namespace Go.Proofs.Ytoddajaepnfgnaa
open Go Go.RowKit
set_option maxRecDepth 16000

theorem ret_int {k : IntKind} {a b : Int} (h : a = b) : Ending.returned (.int k a) = .returned (.int k b) := by rw [h]
theorem ret_bool {a b : Bool} (h : a = b) : Ending.returned (.bool a) = .returned (.bool b) := by rw [h]

theorem kind2_c (k i : Int) (f : Nat) (s : ByteArray) (sl : Value) (w : World) : Calls Try.prog 52 #[.agg #[.int .i64 k, .int .i64 i, .float .f64 f, .string s, sl]] w fun e w' => e = .returned (.int .i64 (kindI k)) ∧ Below w.heap.size w w' := by
  go_enter Try.func52, Try.ntmps52
  go_wp2
  all_goals go_ret
  all_goals exact ⟨ret_int (by unfold kindI; split <;> omega), (Below.refl _ _).alloc (Nat.le_refl _) _⟩

theorem frombits_run (n : Int) (w : World) : (callFunc 49 #[.int .u64 n]).run Try.prog w = .ok (.value (.float .f64 n.toNat)) w :=
  run_callFunc_extern (e := Extern.MathFloatBits.float64frombits) Try.func49 (by kernel_rfl) (by kernel_rfl) (by kernel_rfl) (by kernel_rfl) #[.int .u64 n] w
theorem bits_run (f : Nat) (w : World) : (callFunc 50 #[.float .f64 f]).run Try.prog w = .ok (.value (.int .u64 f)) w :=
  run_callFunc_extern (e := Extern.MathFloatBits.float64bits) Try.func50 (by kernel_rfl) (by kernel_rfl) (by kernel_rfl) (by kernel_rfl) #[.float .f64 f] w


theorem canon1_c (f : Nat) (w : World) : Calls Try.prog 51 #[.float .f64 f] w fun e w' => e = .returned (.float .f64 (canonN f)) ∧ w = w' := by
  have h1 := frombits_run
  by_cases h : nan f = true
  · have e : canonN f = 9221120237041090561 := by unfold canonN; rw [if_pos h]
    unfold nan at h
    rw [e]; clear e
    go_enter Try.func51, Try.ntmps51
    go_wp2; go_ret; exact ⟨rfl, rfl⟩
  · have h := Bool.eq_false_iff.2 h
    have e : canonN f = f := by unfold canonN; rw [h]; rfl
    unfold nan at h
    rw [e]; clear e
    go_enter Try.func51, Try.ntmps51
    go_wp2; go_ret; exact ⟨rfl, rfl⟩

theorem canon2_c (f : Nat) (w : World) : Calls Try.prog 55 #[.float .f64 f] w fun e w' => e = .returned (.float .f64 (canonN f)) ∧ w = w' := by
  have h1 := frombits_run
  by_cases h : nan f = true
  · have e : canonN f = 9221120237041090561 := by unfold canonN; rw [if_pos h]
    unfold nan at h
    rw [e]; clear e
    go_enter Try.func55, Try.ntmps55
    go_wp2; go_ret; exact ⟨rfl, rfl⟩
  · have h := Bool.eq_false_iff.2 h
    have e : canonN f = f := by unfold canonN; rw [h]; rfl
    unfold nan at h
    rw [e]; clear e
    go_enter Try.func55, Try.ntmps55
    go_wp2; go_ret; exact ⟨rfl, rfl⟩

theorem bits1_c (f : Nat) (w : World) : Calls Try.prog 37 #[.float .f64 f] w fun e w' => e = .returned (.int .u64 (canonN f)) ∧ w = w' := by
  have h1 := bits_run
  go_enter Try.func37, Try.ntmps37
  go_wp2_with (go_at_call 51; refine (canon1_c _ _).mono ?_; rintro e w' ⟨rfl, rfl⟩)
  go_ret; exact ⟨rfl, rfl⟩

/-- The reference's own telling of it. -/
theorem floatsI_ref (a b : Nat) : floatsI a b = if nan a || nan b then wayI (nan a && feq b b) (nan b && feq a a) else if feq a 0 && feq b 0 then wayI (sgnB a && !sgnB b) (sgnB b && !sgnB a) else wayI (flt a b) (fgt a b) := by
  have hz : ∀ x, feq x 0 = true → nan x = false := by
    intro x h
    unfold feq nan at *
    unfold Ieee.Format.order at *
    cases hx : FloatKind.f64.format.read x with
    | number s m e => rw [hx] at h; simp [Ieee.Datum.order, Ieee.signed]
    | infinity s => rw [hx] at h; simp [Ieee.Datum.order]
    | nan s f => rw [hx] at h; simp [Ieee.Datum.order] at h
  have hn : ∀ x, feq x x = !nan x := by intro x; unfold feq nan; simp [bne]
  rw [hn, hn]
  unfold floatsI cmpF signI cmpI wayI
  cases ha : nan a <;> cases hb : nan b
  · simp only [Bool.or_self, Bool.false_eq_true, if_false]
    by_cases h : (feq a 0 && feq b 0) = true
    · simp only [h, if_true]
      cases h1 : sgnB a <;> cases h2 : sgnB b <;> simp
    · simp only [h]; simp
  · have : feq b 0 = false := by cases h : feq b 0 with | false => rfl | true => rw [hz b h] at hb; cases hb
    simp [this]
  · have : feq a 0 = false := by cases h : feq a 0 with | false => rfl | true => rw [hz a h] at ha; cases ha
    simp [this]
  · have : feq a 0 = false := by cases h : feq a 0 with | false => rfl | true => rw [hz a h] at ha; cases ha
    simp [this]

end Go.Proofs.Ytoddajaepnfgnaa
