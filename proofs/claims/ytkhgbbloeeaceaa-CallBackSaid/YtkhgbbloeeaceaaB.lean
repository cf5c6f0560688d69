/- Small functions of numbers. -/
import Derived.Test.YtkhgbbloeeaceaaProg
import Derived.Test.YtkhgbbloeeaceaaV
import Derived.KernelRfl
import Derived.WalkSpells
import Derived.WalkLawsBesides
import Derived.Laws.Externs
import Derived.Lib.Bytealg
namespace Go.Proofs.Ytkhgbbloeeaceaa
open Go Go.RowKit
set_option maxRecDepth 16000

theorem ret_int {k : IntKind} {a b : Int} (h : a = b) : Ending.returned (.int k a) = .returned (.int k b) := by rw [h]
theorem ret_bool {a b : Bool} (h : a = b) : Ending.returned (.bool a) = .returned (.bool b) := by rw [h]

theorem way_c (l m : Bool) (w : World) : Calls Try.prog 80 #[.bool l, .bool m] w fun e w' => e = .returned (.int .i64 (wayI l m)) ∧ w = w' := by
  cases l <;> cases m <;> (go_enter Try.func80, Try.ntmps80; go_wp2; go_ret; exact ⟨rfl, rfl⟩)

theorem kind1_c (k i : Int) (f : Nat) (s : ByteArray) (sl : Value) (w : World) : Calls Try.prog 79 #[.agg #[.int .i64 k, .int .i64 i, .float .f64 f, .string s, sl]] w fun e w' => e = .returned (.int .i64 (kindI k)) ∧ Below w.heap.size w w' := by
  go_enter Try.func79, Try.ntmps79
  go_wp2
  all_goals go_ret
  all_goals exact ⟨ret_int (by unfold kindI; split <;> omega), (Below.refl _ _).alloc (Nat.le_refl _) _⟩

theorem kind2_c (k i : Int) (f : Nat) (s : ByteArray) (sl : Value) (w : World) : Calls Try.prog 74 #[.agg #[.int .i64 k, .int .i64 i, .float .f64 f, .string s, sl]] w fun e w' => e = .returned (.int .i64 (kindI k)) ∧ Below w.heap.size w w' := by
  go_enter Try.func74, Try.ntmps74
  go_wp2
  all_goals go_ret
  all_goals exact ⟨ret_int (by unfold kindI; split <;> omega), (Below.refl _ _).alloc (Nat.le_refl _) _⟩

theorem cmpInt_c (a b : Int) (w : World) : Calls Try.prog 73 #[.int .i64 a, .int .i64 b] w fun e w' => e = .returned (.int .i64 (cmpI a b)) ∧ w = w' := by
  go_enter Try.func73, Try.ntmps73
  go_wp2
  all_goals go_ret
  all_goals exact ⟨ret_int (by unfold cmpI; split <;> (try split) <;> omega), rfl⟩

theorem cmpInt64_c (a b : Int) (w : World) : Calls Try.prog 75 #[.int .i64 a, .int .i64 b] w fun e w' => e = .returned (.int .i64 (cmpI a b)) ∧ w = w' := by
  go_enter Try.func75, Try.ntmps75
  go_wp2
  all_goals go_ret
  all_goals exact ⟨ret_int (by unfold cmpI; split <;> (try split) <;> omega), rfl⟩

theorem cmpF_c (a b : Nat) (w : World) : Calls Try.prog 96 #[.float .f64 a, .float .f64 b] w fun e w' => e = .returned (.int .i64 (cmpF a b)) ∧ w = w' := by
  go_enter Try.func96, Try.ntmps96
  go_wp2
  all_goals go_ret
  all_goals exact ⟨ret_int (by simp only [cmpF, nan, flt, fgt, *]; rfl), rfl⟩

theorem frombits_run (n : Int) (w : World) : (callFunc 72 #[.int .u64 n]).run Try.prog w = .ok (.value (.float .f64 n.toNat)) w :=
  run_callFunc_extern (e := Extern.MathFloatBits.float64frombits) Try.func72 (by kernel_rfl) (by kernel_rfl) (by kernel_rfl) (by kernel_rfl) #[.int .u64 n] w
theorem bits_run (f : Nat) (w : World) : (callFunc 88 #[.float .f64 f]).run Try.prog w = .ok (.value (.int .u64 f)) w :=
  run_callFunc_extern (e := Extern.MathFloatBits.float64bits) Try.func88 (by kernel_rfl) (by kernel_rfl) (by kernel_rfl) (by kernel_rfl) #[.float .f64 f] w

theorem cmpstring_run (a b : ByteArray) (w : World) : (callFunc 103 #[.string a, .string b]).run Try.prog w = .ok (.value (.int .i64 (Lib.compareBytes a.data.toList b.data.toList))) w := by
  rw [run_callFunc_extern (e := Extern.BytealgCompare.compare) Try.func103 (by kernel_rfl) (by kernel_rfl) (by kernel_rfl) (by kernel_rfl) #[.string a, .string b] w, Lib.run_compareString]; rfl

theorem canon1_c (f : Nat) (w : World) : Calls Try.prog 54 #[.float .f64 f] w fun e w' => e = .returned (.float .f64 (canonN f)) ∧ w = w' := by
  have h1 := frombits_run
  by_cases h : nan f = true
  · have e : canonN f = 9221120237041090561 := by unfold canonN; rw [if_pos h]
    unfold nan at h
    rw [e]; clear e
    go_enter Try.func54, Try.ntmps54
    go_wp2; go_ret; exact ⟨rfl, rfl⟩
  · have h := Bool.eq_false_iff.2 h
    have e : canonN f = f := by unfold canonN; rw [h]; rfl
    unfold nan at h
    rw [e]; clear e
    go_enter Try.func54, Try.ntmps54
    go_wp2; go_ret; exact ⟨rfl, rfl⟩

theorem canon2_c (f : Nat) (w : World) : Calls Try.prog 82 #[.float .f64 f] w fun e w' => e = .returned (.float .f64 (canonN f)) ∧ w = w' := by
  have h1 := frombits_run
  by_cases h : nan f = true
  · have e : canonN f = 9221120237041090561 := by unfold canonN; rw [if_pos h]
    unfold nan at h
    rw [e]; clear e
    go_enter Try.func82, Try.ntmps82
    go_wp2; go_ret; exact ⟨rfl, rfl⟩
  · have h := Bool.eq_false_iff.2 h
    have e : canonN f = f := by unfold canonN; rw [h]; rfl
    unfold nan at h
    rw [e]; clear e
    go_enter Try.func82, Try.ntmps82
    go_wp2; go_ret; exact ⟨rfl, rfl⟩

theorem bits1_c (f : Nat) (w : World) : Calls Try.prog 68 #[.float .f64 f] w fun e w' => e = .returned (.int .u64 (canonN f)) ∧ w = w' := by
  have h1 := bits_run
  go_enter Try.func68, Try.ntmps68
  go_wp2_with (go_at_call 54; refine (canon1_c _ _).mono ?_; rintro e w' ⟨rfl, rfl⟩)
  go_ret; exact ⟨rfl, rfl⟩

theorem signbit_c (f : Nat) (w : World) : Calls Try.prog 98 #[.float .f64 f] w fun e w' => e = .returned (.bool (sgnB f)) ∧ w = w' := by
  have h1 := bits_run
  go_enter Try.func98, Try.ntmps98
  go_wp2
  go_ret; exact ⟨rfl, rfl⟩

theorem sign_c (f : Nat) (w : World) : Calls Try.prog 95 #[.float .f64 f] w fun e w' => e = .returned (.int .i64 (signI f)) ∧ w = w' := by
  go_enter Try.func95, Try.ntmps95
  go_wp2_with (go_at_call 98; refine (signbit_c _ _).mono ?_; rintro e w' ⟨rfl, rfl⟩)
  all_goals go_ret
  all_goals exact ⟨ret_int (by simp [signI, *]), rfl⟩

theorem floats2_c (a b : Nat) (w : World) : Calls Try.prog 76 #[.float .f64 a, .float .f64 b] w fun e w' => e = .returned (.int .i64 (floatsI a b)) ∧ w = w' := by
  unfold floatsI feq
  cases h1 : FloatKind.f64.format.order a 0 == some Ordering.eq <;> cases h2 : FloatKind.f64.format.order b 0 == some Ordering.eq
  all_goals
    simp only [Bool.and_self, Bool.and_false, Bool.false_and, Bool.false_eq_true, if_true, if_false]
    go_enter Try.func76, Try.ntmps76
    go_wp2_with (first | (go_at_call 95; refine (sign_c _ _).mono ?_; rintro e w' ⟨rfl, rfl⟩) | (go_at_call 73; refine (cmpInt_c _ _ _).mono ?_; rintro e w' ⟨rfl, rfl⟩) | (go_at_call 96; refine (cmpF_c _ _ _).mono ?_; rintro e w' ⟨rfl, rfl⟩))
    go_ret
    exact ⟨rfl, rfl⟩

/-- The reference's own telling of it. -/
theorem floatsI_ref (a b : Nat) : floatsI a b = if nan a || nan b then wayI (nan a && feq b b) (nan b && feq a a) else if feq a 0 && feq b 0 then wayI (sgnB a && !sgnB b) (sgnB b && !sgnB a) else wayI (flt a b) (fgt a b) := by
  have hz : ∀ x, feq x 0 = true → nan x = false := by
    intro x h
    unfold feq nan at *
    unfold Ieee.Format.order at *
    cases hx : FloatKind.f64.format.read x with
    | number s m e => rw [hx] at h; simp [Ieee.Datum.order, Ieee.signed]
    | infinity s => rw [hx] at h; simp [Ieee.Datum.order]
    | nan s f => rw [hx] at h; simp [Ieee.Datum.order] at h
  have hn : ∀ x, feq x x = !nan x := by intro x; unfold feq nan; simp [bne]
  rw [hn, hn]
  unfold floatsI cmpF signI cmpI wayI
  cases ha : nan a <;> cases hb : nan b
  · simp only [Bool.or_self, Bool.false_eq_true, if_false]
    by_cases h : (feq a 0 && feq b 0) = true
    · simp only [h, if_true]
      cases h1 : sgnB a <;> cases h2 : sgnB b <;> simp
    · simp only [h]; simp
  · have : feq b 0 = false := by cases h : feq b 0 with | false => rfl | true => rw [hz b h] at hb; cases hb
    simp [this]
  · have : feq a 0 = false := by cases h : feq a 0 with | false => rfl | true => rw [hz a h] at ha; cases ha
    simp [this]
  · have : feq a 0 = false := by cases h : feq a 0 with | false => rfl | true => rw [hz a h] at ha; cases ha
    simp [this]

theorem floats1_c (a b : Nat) (w : World) : Calls Try.prog 81 #[.float .f64 a, .float .f64 b] w fun e w' => e = .returned (.int .i64 (floatsI a b)) ∧ w = w' := by
  rw [floatsI_ref]
  unfold nan feq flt fgt
  have n1 : (FloatKind.f64.format.order a a == some Ordering.eq) = !(FloatKind.f64.format.order a a != some Ordering.eq) := by simp [bne]
  have n2 : (FloatKind.f64.format.order b b == some Ordering.eq) = !(FloatKind.f64.format.order b b != some Ordering.eq) := by simp [bne]
  cases h1 : FloatKind.f64.format.order a a != some Ordering.eq <;> cases h2 : FloatKind.f64.format.order b b != some Ordering.eq
  all_goals
    rw [h1] at n1; rw [h2] at n2
    simp only [Bool.not_true, Bool.not_false] at n1 n2
    simp only [n1, n2]
  case false.false =>
    cases h3 : FloatKind.f64.format.order a 0 == some Ordering.eq <;> cases h4 : FloatKind.f64.format.order b 0 == some Ordering.eq
    case true.true =>
      cases h5 : sgnB a <;> cases h6 : sgnB b
      all_goals
        simp only [Bool.and_self, Bool.and_false, Bool.and_true, Bool.not_true, Bool.not_false, Bool.false_and, Bool.or_self, Bool.or_false, Bool.or_true, Bool.false_eq_true, if_true, if_false]
        go_enter Try.func81, Try.ntmps81
        go_wp2_with (first | (go_at_call 80; refine (way_c _ _ _).mono ?_; rintro e w' ⟨rfl, rfl⟩) | (go_at_call 98; refine (signbit_c _ _).mono ?_; rintro e w' ⟨rfl, rfl⟩))
        go_ret
        exact ⟨rfl, rfl⟩
    all_goals
      simp only [Bool.and_self, Bool.and_false, Bool.false_and, Bool.or_self, Bool.false_eq_true, if_false]
      go_enter Try.func81, Try.ntmps81
      go_wp2_with (go_at_call 80; refine (way_c _ _ _).mono ?_; rintro e w' ⟨rfl, rfl⟩)
      go_ret
      exact ⟨rfl, rfl⟩
  all_goals
    simp only [Bool.and_self, Bool.and_false, Bool.false_and, Bool.or_self, Bool.or_true, Bool.true_or, Bool.or_false, if_true]
    go_enter Try.func81, Try.ntmps81
    go_wp2_with (go_at_call 80; refine (way_c _ _ _).mono ?_; rintro e w' ⟨rfl, rfl⟩)
    go_ret
    exact ⟨rfl, rfl⟩

theorem compareString_c (a b : ByteArray) (w : World) : Calls Try.prog 77 #[.string a, .string b] w fun e w' => e = .returned (.int .i64 (Lib.compareBytes a.data.toList b.data.toList)) ∧ w = w' := by
  have h1 := cmpstring_run
  go_enter Try.func77, Try.ntmps77
  go_wp2; go_ret; exact ⟨rfl, rfl⟩

end Go.Proofs.Ytkhgbbloeeaceaa
