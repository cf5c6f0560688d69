/- Calls the same: by the program. -/
import Derived.Test.YtkhgbbloeeaceaaF
import Derived.Test.YtkhgbbloeeaceaaOa
namespace Go.Proofs.Ytkhgbbloeeaceaa
open Go Go.RowKit
set_option maxRecDepth 16000
attribute [local go_sem ↓] run_store_float

/-- Lists the same, as the order tells it. -/
def V.eqs (a b : List V) : Bool := decide (a.length = b.length) && (a.zip b).all (fun p => p.1.ord p.2 == 0)
theorem V.eqs_yes {a b : List V} (h : a.length = b.length) (hl : V.likeTo a b a.length) : V.eqs a b = true := by
  unfold V.eqs
  rw [decide_eq_true h, Bool.true_and, List.all_eq_true]
  intro p hp
  obtain ⟨j, hj, rfl⟩ := List.getElem_of_mem hp
  rw [List.length_zip] at hj
  rw [List.getElem_zip]
  simpa using hl j (by omega) (by omega) (by omega)
theorem V.eqs_no {a b : List V} {m : Nat} (ha : m < a.length) (hb : m < b.length) (h : ¬ V.ord a[m] b[m] = 0) : V.eqs a b = false := by
  unfold V.eqs
  rw [Bool.and_eq_false_iff]
  right
  rw [List.all_eq_false]
  refine ⟨(a.zip b)[m]'(by rw [List.length_zip]; omega), List.getElem_mem _, ?_⟩
  rw [List.getElem_zip]
  simpa using h
theorem V.eqs_len {a b : List V} (h : ¬ a.length = b.length) : V.eqs a b = false := by unfold V.eqs; rw [decide_eq_false h, Bool.false_and]

theorem alike_c (x y : V) (w : World) (sx sy : Value) (D E : Nat → Prop) (hx : VIn D w x sx) (hy : VIn E w y sy) :
    Calls Try.prog 55 #[.agg #[.int .i64 x.k, .int .i64 x.i, .float .f64 x.f, .string x.s, sx], .agg #[.int .i64 y.k, .int .i64 y.i, .float .f64 y.f, .string y.s, sy]] w
      fun e w' => e = .returned (.bool (decide (x.ord y = 0))) ∧ Below w.heap.size w w' := by
  have HX := Lib.hid hx
  have HY := Lib.hid hy
  have HBB := Lib.hid (fun o o' => (((Below.refl w.heap.size w).alloc (Nat.le_refl _) o).alloc (by simp) o' : Below w.heap.size w ((w.alloc o).alloc o')))
  clear hx hy
  generalize hr : decide (x.ord y = 0) = r
  have HR := Lib.hid hr.symm
  clear hr
  go_enter Try.func55, Try.ntmps55
  go_wp2_with fail
  refine (order2_c x y _ _ _ D E (HX.out.below (HBB.out _ _)) (HY.out.below (HBB.out _ _))).mono ?_
  rintro e w1 ⟨rfl, hb1⟩
  have HB := Lib.hid ((HBB.out _ _).trans (hb1.mono (by simp; omega)))
  clear hb1
  generalize x.ord y = q at HR ⊢
  by_cases hq : q = 0
  · subst hq
    go_wp2_with fail
    go_ret
    exact ⟨ret_bool (by rw [HR.out]; rfl), HB.out⟩
  · have hqb : (q == 0) = false := by simpa using hq
    have HQ := Lib.hid hq
    clear hq
    go_wp2_with fail
    go_ret
    exact ⟨ret_bool (by rw [HR.out, decide_eq_false HQ.out]), HB.out⟩

theorem equalFunc_c (l l2 : List V) (sl sl2 : Value) (w : World) (D E : Nat → Prop) (h1 : VIn D w (VL l) sl) (h2 : VIn E w (VL l2) sl2) :
    Calls Try.prog 57 #[sl, sl2, .func (.func 55) #[] #[]] w fun e w' => e = .returned (.bool (V.eqs l l2)) ∧ Below w.heap.size w w' := by
  obtain ⟨a, c, rfl, hlc, _, _, ha⟩ := h1.lst
  obtain ⟨b, d, rfl, hld, _, _, hb⟩ := h2.lst
  have HA := Lib.hid ha
  have HBb := Lib.hid hb
  generalize hr : V.eqs l l2 = r
  have HR := Lib.hid hr.symm
  clear ha hb h1 h2 hr
  by_cases hl : l.length = l2.length
  · have hl1 : ((l.length : Int) != (l2.length : Int)) = false := by simp [hl]
    have HLL := Lib.hid hl
    clear hl
    go_enter Try.func57, Try.ntmps57
    go_wp2_with fail
    go_loopw [17] (fun j wr => ∃ m : Nat, m ≤ l.length ∧ j = .int .i64 m ∧ V.likeTo l l2 m ∧ Below w.heap.size w wr) (fun i _ => l.length - (intOf i).toNat)
    case atStart => exact ⟨0, by omega, rfl, fun j hj => by omega, Below.refl _ _⟩
    case round =>
      obtain ⟨m, hm1, rfl, hlike, hb⟩ := hrel
      have HLK := Lib.hid hlike
      have HB := Lib.hid hb
      clear hlike
      by_cases hlt : m < l.length
      · have hlt2 : m < l2.length := by have := HLL.out; omega
        obtain ⟨b1, o1, rfl, he1⟩ := HA.out.resolve_left (fun e => by simp [e] at hlt)
        obtain ⟨b2, o2, rfl, he2⟩ := HBb.out.resolve_left (fun e => by simp [e] at hlt2)
        obtain ⟨hD, sa, sc, e0, e1, e2, e3, e4, hv⟩ := (he1.below hb).get hlt
        obtain ⟨hD2, sa2, sc2, f0, f1, f2, f3, f4, hv2⟩ := (he2.below hb).get hlt2
        have HV := Lib.hid hv
        have HV2 := Lib.hid hv2
        have hb1 : b1 < wr.heap.size := World.block_lt_of_cell? wr _ e0
        have hb2 : b2 < wr.heap.size := World.block_lt_of_cell? wr _ f0
        have HBB := Lib.hid (fun o o' => (((Below.refl wr.heap.size wr).alloc (Nat.le_refl _) o).alloc (by simp) o' : Below wr.heap.size wr ((wr.alloc o).alloc o')))
        clear hv hv2 he1 he2 hb
        go_wp2_with fail
        refine (alike_c l[m] l2[m] _ _ _ D E (HV.out.below (HBB.out _ _)) (HV2.out.below (HBB.out _ _))).mono ?_
        rintro e w5 ⟨rfl, hb5⟩
        have HT := Lib.hid (HB.out.trans (((HBB.out _ _).trans (hb5.mono (by simp; omega))).mono HB.out.size))
        clear hb5 hb1 hb2 e0 e1 e2 e3 e4 f0 f1 f2 f3 f4
        by_cases hx : V.ord l[m] l2[m] = 0
        · rw [decide_eq_true hx]
          have HX := Lib.hid hx
          clear hx
          go_wp2_with fail
          go_roundw
          case rel => exact ⟨m + 1, by omega, by go_num, V.likeTo_succ HLK.out hlt hlt2 HX.out, HT.out⟩
          case measure => simp [intOf]; omega
        · rw [decide_eq_false hx]
          have HX := Lib.hid hx
          clear hx
          go_wp2_with fail
          go_ret
          exact ⟨ret_bool (by rw [HR.out]; exact (V.eqs_no hlt hlt2 HX.out).symm), HT.out⟩
      · have hm' : m = l.length := by omega
        clear hb
        go_wp2_with fail
        go_ret
        exact ⟨ret_bool (by rw [HR.out]; exact (V.eqs_yes HLL.out (hm' ▸ HLK.out)).symm), HB.out⟩
  · have hl1 : ((l.length : Int) != (l2.length : Int)) = true := by simpa using fun e => hl (by omega)
    have HLL := Lib.hid hl
    clear hl
    go_enter Try.func57, Try.ntmps57
    go_wp2_with fail
    go_ret
    exact ⟨ret_bool (by rw [HR.out]; exact (V.eqs_len HLL.out).symm), Below.refl _ _⟩

/-- Calls the same. -/
def eqO (c s n : Int) (g m : ByteArray) (l : List V) (c' s' n' : Int) (g' m' : ByteArray) (l' : List V) : Bool :=
  sameId c s n c' s' n' && (decide (g = g') && (decide (m = m') && V.eqs l l'))

theorem callSame_c (c s n : Int) (g m : ByteArray) (l : List V) (sl : Value) (c' s' n' : Int) (g' m' : ByteArray) (l' : List V) (sl' : Value) (w : World) (D E : Nat → Prop) (h1 : VIn D w (VL l) sl) (h2 : VIn E w (VL l') sl') :
    Calls Try.prog 23 #[oval c s n g m sl, oval c' s' n' g' m' sl'] w fun e w' => e = .returned (.bool (eqO c s n g m l c' s' n' g' m' l')) ∧ Below w.heap.size w w' := by
  have H1 := Lib.hid h1
  have H2 := Lib.hid h2
  have HBB := Lib.hid (fun o o' => (((Below.refl w.heap.size w).alloc (Nat.le_refl _) o).alloc (by simp) o' : Below w.heap.size w ((w.alloc o).alloc o')))
  generalize hr : eqO c s n g m l c' s' n' g' m' l' = r
  have HR := Lib.hid hr.symm
  clear h1 h2 hr
  by_cases hc : c = c'
  · subst hc
    by_cases hs : s = s'
    · subst hs
      by_cases hn : n = n'
      · subst hn
        by_cases hg : g = g'
        · subst hg
          by_cases hm : m = m'
          · subst hm
            go_enter Try.func23, Try.ntmps23
            go_wp2_with fail
            refine (equalFunc_c l l' _ _ _ D E (H1.out.below (HBB.out _ _)) (H2.out.below (HBB.out _ _))).mono ?_
            rintro e w1 ⟨rfl, hb1⟩
            have HB := Lib.hid ((HBB.out _ _).trans (hb1.mono (by simp; omega)))
            clear hb1
            go_wp2_with fail
            go_ret
            exact ⟨ret_bool (by rw [HR.out]; simp [eqO, sameId]), HB.out⟩
          · have hx : (m.toList == m'.toList) = false := toList_ne hm
            have HX := Lib.hid hm
            clear hm
            go_enter Try.func23, Try.ntmps23
            go_wp2_with fail
            go_ret
            exact ⟨ret_bool (by rw [HR.out]; simp [eqO, sameId, HX.out]), HBB.out _ _⟩
        · have hx : (g.toList == g'.toList) = false := toList_ne hg
          have HX := Lib.hid hg
          clear hg
          go_enter Try.func23, Try.ntmps23
          go_wp2_with fail
          go_ret
          exact ⟨ret_bool (by rw [HR.out]; simp [eqO, sameId, HX.out]), HBB.out _ _⟩
      · have hx : (n == n') = false := by simpa using hn
        have HX := Lib.hid hn
        clear hn
        go_enter Try.func23, Try.ntmps23
        go_wp2_with fail
        go_ret
        exact ⟨ret_bool (by rw [HR.out]; simp [eqO, sameId, HX.out]), HBB.out _ _⟩
    · have hx : (s == s') = false := by simpa using hs
      have HX := Lib.hid hs
      clear hs
      go_enter Try.func23, Try.ntmps23
      go_wp2_with fail
      go_ret
      exact ⟨ret_bool (by rw [HR.out]; simp [eqO, sameId, HX.out]), HBB.out _ _⟩
  · have hx : (c == c') = false := by simpa using hc
    have HX := Lib.hid hc
    clear hc
    go_enter Try.func23, Try.ntmps23
    go_wp2_with fail
    go_ret
    exact ⟨ret_bool (by rw [HR.out]; simp [eqO, sameId, HX.out]), HBB.out _ _⟩
end Go.Proofs.Ytkhgbbloeeaceaa
