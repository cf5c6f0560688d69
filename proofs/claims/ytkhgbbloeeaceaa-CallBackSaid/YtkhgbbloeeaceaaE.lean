/- The order of values, as the program tells it. -/
import Derived.Test.YtkhgbbloeeaceaaD
namespace Go.Proofs.Ytkhgbbloeeaceaa
open Go Go.RowKit
set_option maxRecDepth 16000
attribute [local go_sem ↓] run_store_float

/-- What value.Order tells of x. -/
def OrdC (x : V) : Prop := ∀ (y : V) (w : World) (sx sy : Value) (D E : Nat → Prop), VIn D w x sx → VIn E w y sy →
  Calls Try.prog 56 #[.agg #[.int .i64 x.k, .int .i64 x.i, .float .f64 x.f, .string x.s, sx], .agg #[.int .i64 y.k, .int .i64 y.i, .float .f64 y.f, .string y.s, sy]] w
    fun e w' => e = .returned (.int .i64 (x.ord y)) ∧ Below w.heap.size w w'

theorem compareFunc_c (l m : List V) (ih : ∀ x ∈ l, OrdC x) (w : World) (a b : Option Addr) (c d : Nat) (D E : Nat → Prop) (hl : l.length * 64 ≤ 140737488351232) (hm : m.length * 64 ≤ 140737488351232)
    (hlc : l.length ≤ c) (hcm : c ≤ 9223372036854775807) (_hmd : m.length ≤ d) (_hdm : d ≤ 9223372036854775807)
    (ha : l = [] ∨ ∃ b o, a = some ⟨b, o, none⟩ ∧ EIn D w b o l) (hb : m = [] ∨ ∃ b' o, b = some ⟨b', o, none⟩ ∧ EIn E w b' o m) :
    Calls Try.prog 78 #[.slice a l.length c, .slice b m.length d, .func (.func 56) #[] #[]] w
      fun e w' => e = .returned (.int .i64 (V.ords l m)) ∧ Below w.heap.size w w' := by
  have IH := Lib.hid ih
  clear ih
  go_enter Try.func78, Try.ntmps78
  go_wp2_with fail
  go_loopw [13] (fun j wr => ∃ n : Nat, n ≤ l.length ∧ n ≤ m.length ∧ j = .int .i64 n ∧ V.likeTo l m n ∧ Below w.heap.size w wr) (fun i _ => l.length - (intOf i).toNat)
  case atStart => exact ⟨0, by omega, by omega, rfl, fun j hj => by omega, Below.refl _ _⟩
  case round =>
    obtain ⟨n, hn1, hn2, rfl, hk, hbl⟩ := hrel
    have HK := Lib.hid hk
    have HB := Lib.hid hbl
    clear hk
    by_cases hlt : n < l.length
    · obtain ⟨b1, o1, rfl, he1⟩ := ha.resolve_left (fun e => by simp [e] at hlt)
      have HE1 := Lib.hid (he1.keep (D' := D) (w' := wr) (fun b _ h => hbl.block b h) (fun _ h _ => h))
      obtain ⟨hD, sa, sc, c0, c1, c2, c3, c4, hv⟩ := HE1.out.get hlt
      have HV := Lib.hid hv
      clear hv
      by_cases hlt2 : n < m.length
      · obtain ⟨b2, o2, rfl, he2⟩ := hb.resolve_left (fun e => by simp [e] at hlt2)
        have HE2 := Lib.hid (he2.keep (D' := E) (w' := wr) (fun b _ h => hbl.block b h) (fun _ h _ => h))
        obtain ⟨hD2, sa2, sc2, d0, d1, d2, d3, d4, hv2⟩ := HE2.out.get hlt2
        have HV2 := Lib.hid hv2
        clear hv2 hbl
        have hb1 : b1 < wr.heap.size := World.block_lt_of_cell? wr _ c0
        have hb2 : b2 < wr.heap.size := World.block_lt_of_cell? wr _ d0
        have hbb := ((Below.refl wr.heap.size wr).alloc (Nat.le_refl _) (.cells #[.int .i64 l[n].k, .int .i64 l[n].i, .float .f64 l[n].f, .string l[n].s, .slice sa l[n].l.length sc] 43)).alloc (by simp) (.cells #[.int .i64 m[n].k, .int .i64 m[n].i, .float .f64 m[n].f, .string m[n].s, .slice sa2 m[n].l.length sc2] 43)
        have HBB := Lib.hid hbb
        clear hbb
        cases hx : V.ord l[n] m[n] != 0
        · have hx0 : V.ord l[n] m[n] = 0 := by simpa using hx
          have HX0 := Lib.hid hx0
          clear hx0
          go_wp2_with fail
          refine (IH.out _ (List.getElem_mem _) _ _ _ _ D E (HV.out.below HBB.out) (HV2.out.below HBB.out)).mono ?_
          rintro e w1 ⟨rfl, hb3⟩
          have HB3 := Lib.hid (HBB.out.trans (hb3.mono (by simp; omega)))
          have HBw := Lib.hid (HB.out.trans (HB3.out.mono HB.out.size))
          clear hb3
          go_wp2_with fail
          go_roundw
          case rel => exact ⟨n + 1, by omega, by omega, by go_num, V.likeTo_succ HK.out hlt hlt2 HX0.out, HBw.out⟩
          case measure => simp [intOf]; omega
        · have HX0 := Lib.hid (V.ords_at l m n HK.out hlt hlt2 (by simpa using hx))
          go_wp2_with fail
          refine (IH.out _ (List.getElem_mem _) _ _ _ _ D E (HV.out.below HBB.out) (HV2.out.below HBB.out)).mono ?_
          rintro e w1 ⟨rfl, hb3⟩
          have HB3 := Lib.hid (HBB.out.trans (hb3.mono (by simp; omega)))
          have HBw := Lib.hid (HB.out.trans (HB3.out.mono HB.out.size))
          clear hb3
          go_wp2_with fail
          go_ret
          exact ⟨ret_int HX0.out.symm, HBw.out⟩
      · clear hbl
        have hb1 : b1 < wr.heap.size := World.block_lt_of_cell? wr _ c0
        have HX0 := Lib.hid (V.ords_end l m n HK.out (by omega))
        go_wp2_with fail
        go_ret
        refine ⟨ret_int ?_, HB.out.trans (((Below.refl _ _).alloc (Nat.le_refl _) _).mono HB.out.size)⟩
        rw [HX0.out, cmpI, if_neg (by omega), if_pos (by omega)]
    · have HX0 := Lib.hid (V.ords_end l m n HK.out (by omega))
      clear hbl
      by_cases h : l.length < m.length
      · go_wp2_with fail
        go_ret
        refine ⟨ret_int ?_, HB.out⟩
        rw [HX0.out, cmpI, if_pos (by omega)]
      · go_wp2_with fail
        go_ret
        refine ⟨ret_int ?_, HB.out⟩
        rw [HX0.out, cmpI, if_neg (by omega), if_neg (by omega)]

/-- value.Order -/
theorem order2_c (x : V) : OrdC x := by
  induction x using V.induct with
  | h k i f s l ih =>
  intro y w sx sy D E hx hy
  obtain ⟨wk, wi, wf, ws, wl, hsx⟩ := hx.parts
  obtain ⟨k2, i2, f2, s2, l2⟩ := y
  obtain ⟨wk2, wi2, wf2, ws2, wl2, hsy⟩ := hy.parts
  generalize hr : (V.mk k i f s l).ord (V.mk k2 i2 f2 s2 l2) = r
  rw [V.ord_mk] at hr
  simp only [V.k_mk, V.i_mk, V.f_mk, V.s_mk, V.l_mk] at hr ⊢
  have HR := Lib.hid hr.symm
  clear hr
  have IH := Lib.hid ih
  have H1 := Lib.hid wk
  have H2 := Lib.hid wi
  have H3 := Lib.hid wk2
  have H4 := Lib.hid wi2
  clear ih wk wi wk2 wi2 wf ws wf2 ws2
  obtain ⟨a, c, rfl, hlc, hcm, _, ha⟩ := hsx
  obtain ⟨b, d, rfl, hld, hdm, _, hb⟩ := hsy
  go_enter Try.func56, Try.ntmps56
  go_wp2_with fail
  go_region_held3 (fun w' => two w w' k i f s (.slice a l.length c) k2 i2 f2 s2 (.slice b l2.length d)) (first | assumption | exact two.start | exact two.keep hb1 (by assumption))
    (first | (go_at_call 74; refine (kind2_c _ _ _ _ _ _).mono ?_; rintro e w1 ⟨rfl, hb1⟩) | (go_at_call 73; refine (cmpInt_c _ _ _).mono ?_; rintro e w' ⟨rfl, rfl⟩))
  have hS : two w w1 k i f s (.slice a l.length c) k2 i2 f2 s2 (.slice b l2.length d) := by assumption
  obtain ⟨⟨c0, c1, c2, c3, c4⟩, _⟩ := id hS
  have HS := Lib.hid hS
  have HA := Lib.hid ha
  have HBb := Lib.hid hb
  have HX := Lib.hid hx
  have HY := Lib.hid hy
  clear hS ha hb hx hy
  by_cases hk : kindI k = kindI k2
  · have e0 : cmpI (kindI k) (kindI k2) = 0 := by rw [hk]; exact cmpI_self _
    have HK := Lib.hid hk
    clear hk
    go_wp2_with fail
    refine (kind2_c _ _ _ _ _ _).mono ?_
    rintro e w2 ⟨rfl, hb2⟩
    have hS2 := two.keep hb2 HS.out
    obtain ⟨⟨c0, c1, c2, c3, c4⟩, ⟨d0, d1, d2, d3, d4⟩, hb2', hz2⟩ := hS2
    have HB2 := Lib.hid hb2'
    clear hb2 hb2' hb1 e0
    rcases kindI_cases k with ⟨rfl, e1⟩ | ⟨rfl, e1⟩ | ⟨rfl, e1⟩ | ⟨rfl, e1⟩ | ⟨n1, n2, n3, n4, e1⟩
    · go_wp2_with (go_at_call 75; refine (cmpInt64_c _ _ _).mono ?_; rintro e w3 ⟨rfl, rfl⟩)
      go_ret
      exact ⟨ret_int (by rw [HR.out, if_neg (by simp [HK.out])]; simp), HB2.out⟩
    · go_wp2_with (go_at_call 76; refine (floats2_c _ _ _).mono ?_; rintro e w3 ⟨rfl, rfl⟩)
      go_ret
      exact ⟨ret_int (by rw [HR.out, if_neg (by simp [HK.out])]; simp), HB2.out⟩
    · go_wp2_with (go_at_call 77; refine (compareString_c _ _ _).mono ?_; rintro e w3 ⟨rfl, rfl⟩)
      go_ret
      exact ⟨ret_int (by rw [HR.out, if_neg (by simp [HK.out])]; simp), HB2.out⟩
    · go_wp2_with fail
      refine (compareFunc_c l l2 IH.out w2 a b c d D E wl wl2 hlc hcm hld hdm (HA.out.imp id (fun ⟨b, o, e, h⟩ => ⟨b, o, e, h.below HB2.out⟩)) (HBb.out.imp id (fun ⟨b, o, e, h⟩ => ⟨b, o, e, h.below HB2.out⟩))).mono ?_
      rintro e w3 ⟨rfl, hb3⟩
      have HB3 := Lib.hid (HB2.out.trans (hb3.mono HB2.out.size))
      clear hb3
      go_wp2_with fail
      go_ret
      exact ⟨ret_int (by rw [HR.out, if_neg (by simp [HK.out])]; simp), HB3.out⟩
    · go_wp2_with fail
      go_ret
      exact ⟨ret_int (by rw [HR.out]; simp [HK.out, n1, n2, n3, n4]), HB2.out⟩
  · have e0 : (cmpI (kindI k) (kindI k2) != 0) = true := by simpa using cmpI_ne hk
    have HK := Lib.hid hk
    clear hk hb1
    go_wp2_with fail
    go_ret
    exact ⟨ret_int (by rw [HR.out]; simp [HK.out]), HS.out.2.2.1⟩
end Go.Proofs.Ytkhgbbloeeaceaa
