/- Flat values (no lists): cleaned, cloned; numbers as floats. -/
import Derived.Test.YtbncfpbaifnikaaH
namespace Go.Proofs.Ytbncfpbaifnikaa
open Go Go.RowKit
attribute [local go_sem ↓] run_store_float

/-- A flat value as Go has it. -/
abbrev fval (k i : Int) (f : Nat) (s : ByteArray) : Value := .agg #[.int .i64 k, .int .i64 i, .float .f64 f, .string s, .slice none 0 0]

/-- A flat value cleaned. -/
def cf (k i : Int) (f : Nat) (s : ByteArray) : Value :=
  if k = 1 then fval 1 i 0 ⟨#[]⟩ else if k = 2 then fval 2 0 (canonN f) ⟨#[]⟩ else if k = 3 then fval 3 0 0 s else fval 0 0 0 ⟨#[]⟩

theorem clean2_flat (k i : Int) (f : Nat) (s : ByteArray) (sl : Value) (w : World) (k4 : k ≠ 4) :
    Calls Try.prog 45 #[.agg #[.int .i64 k, .int .i64 i, .float .f64 f, .string s, sl]] w fun e w' => e = .returned (cf k i f s) ∧ Below w.heap.size w w' := by
  generalize hr : cf k i f s = r
  have HR := Lib.hid hr.symm
  clear hr
  have hbb : ∀ o o', Below w.heap.size w ((w.alloc o).alloc o') := fun o o' => ((Below.refl _ _).alloc (Nat.le_refl _) _).alloc (by simp) _
  by_cases k1 : k = 1
  · subst k1
    have HR1 : r = fval 1 i 0 ⟨#[]⟩ := by rw [HR.out]; simp [cf]
    subst HR1
    go_enter Try.func45, Try.ntmps45
    go_wp2_with fail
    exact bodyPost_ret (v := fval 1 i 0 ⟨#[]⟩) (by simp [results, Try.results45, go_sem]) rfl ⟨rfl, hbb _ _⟩
  by_cases k2 : k = 2
  · subst k2
    have HR1 : r = fval 2 0 (canonN f) ⟨#[]⟩ := by rw [HR.out]; simp [cf]
    subst HR1
    go_enter Try.func45, Try.ntmps45
    go_wp2_with (go_at_call 54; refine (canon2_c _ _).mono ?_; rintro e w1 ⟨rfl, rfl⟩)
    exact bodyPost_ret (v := fval 2 0 (canonN f) ⟨#[]⟩) (by simp [results, Try.results45, go_sem]) rfl ⟨rfl, hbb _ _⟩
  by_cases k3 : k = 3
  · subst k3
    have HR1 : r = fval 3 0 0 s := by rw [HR.out]; simp [cf]
    subst HR1
    go_enter Try.func45, Try.ntmps45
    go_wp2_with fail
    exact bodyPost_ret (v := fval 3 0 0 s) (by simp [results, Try.results45, go_sem]) rfl ⟨rfl, hbb _ _⟩
  · have HR1 : r = fval 0 0 0 ⟨#[]⟩ := by rw [HR.out]; simp [cf, k1, k2, k3]
    subst HR1
    go_enter Try.func45, Try.ntmps45
    go_wp2_with fail
    exact bodyPost_ret (v := fval 0 0 0 ⟨#[]⟩) (by simp [results, Try.results45, go_sem]) rfl ⟨rfl, hbb _ _⟩

theorem cf_form (k i : Int) (f : Nat) (s : ByteArray) : ∃ k' i' f' s', cf k i f s = fval k' i' f' s' := by
  unfold cf
  split
  · exact ⟨_, _, _, _, rfl⟩
  · split
    · exact ⟨_, _, _, _, rfl⟩
    · split <;> exact ⟨_, _, _, _, rfl⟩

theorem clone_flat (k i : Int) (f : Nat) (s : ByteArray) (a : Option Addr) (n c : Nat) (w : World) (k4 : k ≠ 4) :
    Calls Try.prog 30 #[.agg #[.int .i64 k, .int .i64 i, .float .f64 f, .string s, .slice a n c]] w fun e w' => e = .returned (cf k i f s) ∧ Below w.heap.size w w' := by
  obtain ⟨k', i', f', s', hcf⟩ := cf_form k i f s
  rw [hcf]
  have HC := Lib.hid hcf
  clear hcf
  go_enter Try.func30, Try.ntmps30
  go_wp2_with fail
  refine (clean2_flat _ _ _ _ _ _ k4).mono ?_
  rintro e w1 ⟨rfl, hb1⟩
  obtain ⟨⟨v0, v1, v2, v3, v4⟩, hfz, hz, hbb⟩ := var5 hb1
  rw [HC.out]
  have HB := Lib.hid hbb
  clear hb1 hbb
  go_wp2_with fail
  exact bodyPost_ret (v := fval k' i' f' s') (by simp [results, Try.results30, go_sem, v0, v1, v2, v3, v4]) rfl ⟨rfl, below5 HB.out (Nat.le_succ _) _ _ _ _ _⟩

theorem asFloat_c (f : Nat) (w : World) : Calls Try.prog 19 #[fval 2 0 f ⟨#[]⟩] w fun e w' => e = .returned (.float .f64 f) ∧ Below w.heap.size w w' := by
  go_enter Try.func19, Try.ntmps19
  go_wp2_with fail
  go_ret
  exact ⟨rfl, (Below.refl _ _).alloc (Nat.le_refl _) _⟩
end Go.Proofs.Ytbncfpbaifnikaa
