/- Replies alike. -/
import Derived.Test.YtbncfpbaifnikaaF
import Derived.Test.YtbncfpbaifnikaaJ
namespace Go.Proofs.Ytbncfpbaifnikaa
open Go Go.RowKit
attribute [local go_sem ↓] run_store_float

/-- A reply as Go has it. -/
abbrev rval (c s n e : Int) (t : V) (sl : Value) : Value := .agg #[.int .u32 c, .int .u32 s, .int .u16 n, .int .i64 e, .int .i64 t.k, .int .i64 t.i, .float .f64 t.f, .string t.s, sl]
def idEq (c s n c' s' n' : Int) : Bool := c == c' && (s == s' && n == n')

theorem alike2_c (c s n e : Int) (t : V) (sl : Value) (c' s' n' e' : Int) (t' : V) (sl' : Value) (w : World) (D E : Nat → Prop) (h1 : VIn D w t sl) (h2 : VIn E w t' sl') :
    Calls Try.prog 10 #[rval c s n e t sl, rval c' s' n' e' t' sl'] w
      fun r w' => r = .returned (.bool (idEq c s n c' s' n' && (e == e' && t.ord t' == 0))) ∧ Below w.heap.size w w' := by
  have H1 := Lib.hid h1
  have H2 := Lib.hid h2
  clear h1 h2
  have hbb : ∀ o o', Below w.heap.size w ((w.alloc o).alloc o') := fun o o' => ((Below.refl _ _).alloc (Nat.le_refl _) _).alloc (by simp) _
  have HBB := Lib.hid hbb
  clear hbb
  generalize hr : (idEq c s n c' s' n' && (e == e' && t.ord t' == 0)) = r
  have HR := Lib.hid hr.symm
  clear hr
  by_cases hc : c = c'
  · subst hc
    by_cases hs : s = s'
    · subst hs
      by_cases hn : n = n'
      · subst hn
        by_cases he : e = e'
        · subst he
          cases ho : t.ord t' == 0
          all_goals
            go_enter Try.func10, Try.ntmps10
            go_wp2_with fail
            refine (order2_c t t' _ _ _ D E (H1.out.below (HBB.out _ _)) (H2.out.below (HBB.out _ _))).mono ?_
            rintro e w1 ⟨rfl, hb1⟩
            have HB := Lib.hid ((HBB.out _ _).trans (hb1.mono (by simp; omega)))
            clear hb1
            go_wp2_with fail
            go_ret
            exact ⟨ret_bool (by rw [HR.out]; simp [idEq, ho]), HB.out⟩
        · have he2 : (e == e') = false := by simpa using he
          have HE := Lib.hid he
          clear he
          go_enter Try.func10, Try.ntmps10
          go_wp2_with fail
          go_ret
          exact ⟨ret_bool (by rw [HR.out]; simp [idEq, HE.out]), HBB.out _ _⟩
      · have hx : (n == n') = false := by simpa using hn
        have HX := Lib.hid hn
        clear hn
        go_enter Try.func10, Try.ntmps10
        go_wp2_with fail
        go_ret
        exact ⟨ret_bool (by rw [HR.out]; simp [idEq, HX.out]), HBB.out _ _⟩
    · have hx : (s == s') = false := by simpa using hs
      have HX := Lib.hid hs
      clear hs
      go_enter Try.func10, Try.ntmps10
      go_wp2_with fail
      go_ret
      exact ⟨ret_bool (by rw [HR.out]; simp [idEq, HX.out]), HBB.out _ _⟩
  · have hx : (c == c') = false := by simpa using hc
    have HX := Lib.hid hc
    clear hc
    go_enter Try.func10, Try.ntmps10
    go_wp2_with fail
    go_ret
    exact ⟨ret_bool (by rw [HR.out]; simp [idEq, HX.out]), HBB.out _ _⟩

theorem alike1_c (c s n e : Int) (t : V) (sl : Value) (c' s' n' e' : Int) (t' : V) (sl' : Value) (w : World) (D E : Nat → Prop) (h1 : VIn D w t sl) (h2 : VIn E w t' sl') :
    Calls Try.prog 11 #[rval c s n e t sl, rval c' s' n' e' t' sl'] w
      fun r w' => r = .returned (.bool (idEq c s n c' s' n' && (e == e' && t.ord t' == 0))) ∧ Below w.heap.size w w' := by
  have H1 := Lib.hid h1
  have H2 := Lib.hid h2
  clear h1 h2
  have hbb : ∀ o o', Below w.heap.size w ((w.alloc o).alloc o') := fun o o' => ((Below.refl _ _).alloc (Nat.le_refl _) _).alloc (by simp) _
  have HBB := Lib.hid hbb
  clear hbb
  generalize hr : (idEq c s n c' s' n' && (e == e' && t.ord t' == 0)) = r
  have HR := Lib.hid hr.symm
  clear hr
  by_cases hc : c = c'
  · subst hc
    by_cases hs : s = s'
    · subst hs
      by_cases hn : n = n'
      · subst hn
        by_cases he : e = e'
        · subst he
          cases ho : t.ord t' == 0
          all_goals
            go_enter Try.func11, Try.ntmps11
            go_wp2_with fail
            refine (order1_c t t' _ _ _ D E (H1.out.below (HBB.out _ _)) (H2.out.below (HBB.out _ _))).mono ?_
            rintro e w1 ⟨rfl, hb1⟩
            have HB := Lib.hid ((HBB.out _ _).trans (hb1.mono (by simp; omega)))
            clear hb1
            go_wp2_with fail
            go_ret
            exact ⟨ret_bool (by rw [HR.out]; simp [idEq, ho]), HB.out⟩
        · have he2 : (e == e') = false := by simpa using he
          have HE := Lib.hid he
          clear he
          go_enter Try.func11, Try.ntmps11
          go_wp2_with fail
          go_ret
          exact ⟨ret_bool (by rw [HR.out]; simp [idEq, HE.out]), HBB.out _ _⟩
      · have hx : (n == n') = false := by simpa using hn
        have HX := Lib.hid hn
        clear hn
        go_enter Try.func11, Try.ntmps11
        go_wp2_with fail
        go_ret
        exact ⟨ret_bool (by rw [HR.out]; simp [idEq, HX.out]), HBB.out _ _⟩
    · have hx : (s == s') = false := by simpa using hs
      have HX := Lib.hid hs
      clear hs
      go_enter Try.func11, Try.ntmps11
      go_wp2_with fail
      go_ret
      exact ⟨ret_bool (by rw [HR.out]; simp [idEq, HX.out]), HBB.out _ _⟩
  · have hx : (c == c') = false := by simpa using hc
    have HX := Lib.hid hc
    clear hc
    go_enter Try.func11, Try.ntmps11
    go_wp2_with fail
    go_ret
    exact ⟨ret_bool (by rw [HR.out]; simp [idEq, HX.out]), HBB.out _ _⟩

end Go.Proofs.Ytbncfpbaifnikaa
