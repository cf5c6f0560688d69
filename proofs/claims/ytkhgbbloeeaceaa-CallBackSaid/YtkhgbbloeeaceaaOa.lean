/- Calls in memory; the helper's Values, Op, LightOp. -/
import Derived.Test.YtkhgbbloeeaceaaSm
import Derived.Test.YtkhgbbloeeaceaaLi
namespace Go.Proofs.Ytkhgbbloeeaceaa
open Go Go.RowKit
set_option maxRecDepth 16000
attribute [local go_sem ↓] run_store_float

/-- A call as Go has it. -/
abbrev oval (c s n : Int) (g m : ByteArray) (sl : Value) : Value := .agg #[.int .u32 c, .int .u32 s, .int .u16 n, .string g, .string m, sl]
/-- The list of a call's arguments. -/
abbrev VL (l : List V) : V := .mk 0 0 0 ⟨#[]⟩ l
theorem VIn.lst {D w l sl} (h : VIn D w (VL l) sl) : ∃ a c, sl = .slice a l.length c ∧ (l.length ≤ c ∧ c ≤ 9223372036854775807) ∧ (a = none → c = 0) ∧ l.length * 64 ≤ 140737488351232 ∧ LIn D w a l := by
  obtain ⟨_, _, _, _, h5, a, c, e, h1, h2, h3, h4⟩ := h.parts
  exact ⟨a, c, e, ⟨h1, h2⟩, h3, h5, h4⟩
theorem VIn.lsts {D w l a c} (h1 : l.length ≤ c ∧ c ≤ 9223372036854775807) (h2 : a = none → c = 0) (h3 : l.length * 64 ≤ 140737488351232) (h4 : LIn D w a l) : VIn D w (VL l) (.slice a l.length c) :=
  VIn.of ⟨by decide, by decide, by decide, by decide, h3, a, c, rfl, h1.1, h1.2, h2, h4⟩

theorem values_c (l l2 : List V) (sl sl2 : Value) (w : World) (D E : Nat → Prop) (h1 : VIn D w (VL l) sl) (h2 : VIn E w (VL l2) sl2) :
    Calls Try.prog 42 #[sl, sl2] w fun e w' => e = .returned (.bool (decide (l.length = l2.length) && V.sames l l2)) ∧ Below w.heap.size w w' := by
  obtain ⟨a, c, rfl, hlc, _, _, ha⟩ := h1.lst
  obtain ⟨b, d, rfl, hld, _, _, hb⟩ := h2.lst
  have HA := Lib.hid ha
  have HBb := Lib.hid hb
  generalize hr : (decide (l.length = l2.length) && V.sames l l2) = r
  have HR := Lib.hid hr.symm
  clear ha hb h1 h2 hr
  by_cases hl : l.length = l2.length
  · have hl1 : ((l.length : Int) != (l2.length : Int)) = false := by simp [hl]
    have HLL := Lib.hid hl
    clear hl
    go_enter Try.func42, Try.ntmps42
    go_wp2_with fail
    go_loopw [5] (fun j wr => ∃ m : Nat, m ≤ l.length ∧ j = .int .i64 m ∧ V.sameTo l l2 m ∧ Below w.heap.size w wr) (fun i _ => l.length - (intOf i).toNat)
    case atStart => exact ⟨0, by omega, rfl, fun j hj => by omega, Below.refl _ _⟩
    case round =>
      obtain ⟨m, hm1, rfl, hlike, hb⟩ := hrel
      have HLK := Lib.hid hlike
      have HB := Lib.hid hb
      clear hlike
      by_cases hlt : m < l.length
      · have hlt2 : m < l2.length := by have := HLL.out; omega
        obtain ⟨b1, o1, rfl, he1⟩ := HA.out.resolve_left (fun e => by simp [e] at hlt)
        have HE1 := Lib.hid (he1.below hb)
        obtain ⟨b2, o2, rfl, he2⟩ := HBb.out.resolve_left (fun e => by simp [e] at hlt2)
        have HE2 := Lib.hid (he2.below hb)
        clear he1 he2 hb
        obtain ⟨hD, sa, sc, e0, e1, e2, e3, e4, hv⟩ := HE1.out.get hlt
        obtain ⟨hD2, sa2, sc2, f0, f1, f2, f3, f4, hv2⟩ := HE2.out.get hlt2
        have HV := Lib.hid hv
        have HV2 := Lib.hid hv2
        have hb1 : b1 < wr.heap.size := World.block_lt_of_cell? wr _ e0
        have hb2 : b2 < wr.heap.size := World.block_lt_of_cell? wr _ f0
        clear hv hv2
        cases hx : V.same l[m] l2[m]
        all_goals
          have HX := Lib.hid hx
          clear hx
          go_wp2_with fail
          go_region_held3 (fun w' => Held wr w') (first | assumption | exact Held.start | exact Held.keep hb5 (by assumption))
            (first | (go_at_call 45; refine (same_c _ _ _ _ _ D E (HV.out.held (by assumption)) (HV2.out.held (by assumption))).mono ?_; rintro e w5 ⟨rfl, hb5⟩; rw [HX.out]))
          have hS5 : Held wr w5 := by assumption
          have HT := Lib.hid (HB.out.trans (hS5.2.mono HB.out.size))
          clear hS5 hb5 hb1 hb2 e0 e1 e2 e3 e4 f0 f1 f2 f3 f4
        · go_wp2_with fail
          go_ret
          exact ⟨ret_bool (by rw [HR.out]; simp [V.sames_no l l2 m hlt hlt2 HX.out]), HT.out⟩
        · go_wp2_with fail
          go_roundw
          case rel => exact ⟨m + 1, by omega, by go_num, V.sameTo_succ HLK.out hlt hlt2 HX.out, HT.out⟩
          case measure => simp [intOf]; omega
      · have hm' : m = l.length := by omega
        clear hb
        go_wp2_with fail
        go_ret
        exact ⟨ret_bool (by rw [HR.out]; simp [HLL.out, V.sames_yes l l2 HLL.out (hm' ▸ HLK.out)]), HB.out⟩
  · have hl1 : ((l.length : Int) != (l2.length : Int)) = true := by simpa using fun e => hl (by omega)
    have HLL := Lib.hid hl
    clear hl
    go_enter Try.func42, Try.ntmps42
    go_wp2_with fail
    go_ret
    exact ⟨ret_bool (by rw [HR.out]; simp [HLL.out]), Below.refl _ _⟩

/-- Ids alike. -/
def sameId (c s n c' s' n' : Int) : Bool := decide (c = c') && (decide (s = s') && decide (n = n'))
/-- Calls just alike. -/
def sameO (c s n : Int) (g m : ByteArray) (l : List V) (c' s' n' : Int) (g' m' : ByteArray) (l' : List V) : Bool :=
  sameId c s n c' s' n' && (decide (g = g') && (decide (m = m') && (decide (l.length = l'.length) && V.sames l l')))
theorem sameO_self (c s n g m l) : sameO c s n g m l c s n g m l = true := by
  have := V.same_self (VL l)
  rw [V.same_mk] at this
  simp [sameO, sameId] at this ⊢
  exact this

theorem op_c (c s n : Int) (g m : ByteArray) (l : List V) (sl : Value) (c' s' n' : Int) (g' m' : ByteArray) (l' : List V) (sl' : Value) (w : World) (D E : Nat → Prop) (h1 : VIn D w (VL l) sl) (h2 : VIn E w (VL l') sl') :
    Calls Try.prog 13 #[oval c s n g m sl, oval c' s' n' g' m' sl'] w fun e w' => e = .returned (.bool (sameO c s n g m l c' s' n' g' m' l')) ∧ Below w.heap.size w w' := by
  have H1 := Lib.hid h1
  have H2 := Lib.hid h2
  have HBB := Lib.hid (fun o o' => (((Below.refl w.heap.size w).alloc (Nat.le_refl _) o).alloc (by simp) o' : Below w.heap.size w ((w.alloc o).alloc o')))
  generalize hr : sameO c s n g m l c' s' n' g' m' l' = r
  have HR := Lib.hid hr.symm
  clear h1 h2 hr
  by_cases hc : c = c'
  · subst hc
    by_cases hs : s = s'
    · subst hs
      by_cases hn : n = n'
      · subst hn
        by_cases hg : g = g'
        · subst hg
          by_cases hm : m = m'
          · subst hm
            go_enter Try.func13, Try.ntmps13
            go_wp2_with fail
            refine (values_c l l' _ _ _ D E (H1.out.below (HBB.out _ _)) (H2.out.below (HBB.out _ _))).mono ?_
            rintro e w1 ⟨rfl, hb1⟩
            have HB := Lib.hid ((HBB.out _ _).trans (hb1.mono (by simp; omega)))
            clear hb1
            go_wp2_with fail
            go_ret
            exact ⟨ret_bool (by rw [HR.out]; simp [sameO, sameId]), HB.out⟩
          · have hx : (m.toList == m'.toList) = false := toList_ne hm
            have HX := Lib.hid hm
            clear hm
            go_enter Try.func13, Try.ntmps13
            go_wp2_with fail
            go_ret
            exact ⟨ret_bool (by rw [HR.out]; simp [sameO, sameId, HX.out]), HBB.out _ _⟩
        · have hx : (g.toList == g'.toList) = false := toList_ne hg
          have HX := Lib.hid hg
          clear hg
          go_enter Try.func13, Try.ntmps13
          go_wp2_with fail
          go_ret
          exact ⟨ret_bool (by rw [HR.out]; simp [sameO, sameId, HX.out]), HBB.out _ _⟩
      · have hx : (n == n') = false := by simpa using hn
        have HX := Lib.hid hn
        clear hn
        go_enter Try.func13, Try.ntmps13
        go_wp2_with fail
        go_ret
        exact ⟨ret_bool (by rw [HR.out]; simp [sameO, sameId, HX.out]), HBB.out _ _⟩
    · have hx : (s == s') = false := by simpa using hs
      have HX := Lib.hid hs
      clear hs
      go_enter Try.func13, Try.ntmps13
      go_wp2_with fail
      go_ret
      exact ⟨ret_bool (by rw [HR.out]; simp [sameO, sameId, HX.out]), HBB.out _ _⟩
  · have hx : (c == c') = false := by simpa using hc
    have HX := Lib.hid hc
    clear hc
    go_enter Try.func13, Try.ntmps13
    go_wp2_with fail
    go_ret
    exact ⟨ret_bool (by rw [HR.out]; simp [sameO, sameId, HX.out]), HBB.out _ _⟩

theorem lightop_c (c s n : Int) (g m : ByteArray) (l : List V) (sl : Value) (w : World) (D : Nat → Prop) (hs : g.size ≤ 140737488351232 ∧ m.size ≤ 140737488351232) (h1 : VIn D w (VL l) sl) :
    Calls Try.prog 9 #[oval c s n g m sl] w fun e w' => e = .returned (.bool (decide (g.size ≤ 100) && (decide (m.size ≤ 100) && V.lights l))) ∧ Below w.heap.size w w' := by
  obtain ⟨a, k, rfl, hlc, _, _, ha⟩ := h1.lst
  have HA := Lib.hid ha
  have HBB := Lib.hid (fun o => ((Below.refl w.heap.size w).alloc (Nat.le_refl _) o : Below w.heap.size w (w.alloc o)))
  generalize hr : (decide (g.size ≤ 100) && (decide (m.size ≤ 100) && V.lights l)) = r
  have HR := Lib.hid hr.symm
  clear h1 ha hr
  by_cases hg : g.size ≤ 100
  · by_cases hm : m.size ≤ 100
    · go_enter Try.func9, Try.ntmps9
      go_wp2_with fail
      refine (lights_c a k l D _ (by omega) (HA.out.below (HBB.out _))).mono ?_
      rintro e w1 ⟨rfl, hb1⟩
      have HB := Lib.hid ((HBB.out _).trans (hb1.mono (by simp)))
      clear hb1
      go_wp2_with fail
      go_ret
      exact ⟨ret_bool (by rw [HR.out]; simp [hg, hm]), HB.out⟩
    · go_enter Try.func9, Try.ntmps9
      go_wp2_with fail
      go_ret
      exact ⟨ret_bool (by rw [HR.out]; simp [hm]), HBB.out _⟩
  · go_enter Try.func9, Try.ntmps9
    go_wp2_with fail
    go_ret
    exact ⟨ret_bool (by rw [HR.out]; simp [hg]), HBB.out _⟩
end Go.Proofs.Ytkhgbbloeeaceaa
