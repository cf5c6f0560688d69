/- The order of values, as the reference tells it. -/
import Derived.Test.YtkhgbbloeeaceaaE
namespace Go.Proofs.Ytkhgbbloeeaceaa
open Go Go.RowKit
set_option maxRecDepth 16000
attribute [local go_sem ↓] run_store_float

/-- choirref1.Order -/
def OrdC1 (x : V) : Prop := ∀ (y : V) (w : World) (sx sy : Value) (D E : Nat → Prop), VIn D w x sx → VIn E w y sy →
  Calls Try.prog 58 #[.agg #[.int .i64 x.k, .int .i64 x.i, .float .f64 x.f, .string x.s, sx], .agg #[.int .i64 y.k, .int .i64 y.i, .float .f64 y.f, .string y.s, sy]] w
    fun e w' => e = .returned (.int .i64 (x.ord y)) ∧ Below w.heap.size w w'

theorem order1_c (x : V) : OrdC1 x := by
  induction x using V.induct with
  | h k i f s l ih =>
  intro y w sx sy D E hx hy
  obtain ⟨wk, wi, wf, ws, wl, hsx⟩ := hx.parts
  obtain ⟨k2, i2, f2, s2, l2⟩ := y
  obtain ⟨wk2, wi2, wf2, ws2, wl2, hsy⟩ := hy.parts
  generalize hr : (V.mk k i f s l).ord (V.mk k2 i2 f2 s2 l2) = r
  rw [V.ord_mk] at hr
  simp only [V.k_mk, V.i_mk, V.f_mk, V.s_mk, V.l_mk] at hr ⊢
  have HR := Lib.hid hr.symm
  clear hr
  have IH := Lib.hid ih
  have H1 := Lib.hid wk
  have H2 := Lib.hid wi
  have H3 := Lib.hid wk2
  have H4 := Lib.hid wi2
  clear ih wk wi wk2 wi2 wf ws wf2 ws2
  obtain ⟨a, c, rfl, hlc, hcm, _, ha⟩ := hsx
  obtain ⟨b, d, rfl, hld, hdm, _, hb⟩ := hsy
  have HA := Lib.hid ha
  have HBb := Lib.hid hb
  clear ha hb hx hy
  go_enter Try.func58, Try.ntmps58
  go_wp2_with fail
  go_region_held3 (fun w' => two w w' k i f s (.slice a l.length c) k2 i2 f2 s2 (.slice b l2.length d)) (first | assumption | exact two.start | exact two.keep hb1 (by assumption))
    (first | (go_at_call 79; refine (kind1_c _ _ _ _ _ _).mono ?_; rintro e w1 ⟨rfl, hb1⟩) )
  have hS : two w w1 k i f s (.slice a l.length c) k2 i2 f2 s2 (.slice b l2.length d) := by assumption
  obtain ⟨⟨c0, c1, c2, c3, c4⟩, ⟨d0, d1, d2, d3, d4⟩, hbS, hzS⟩ := id hS
  have HS := Lib.hid hS
  have HBS := Lib.hid hbS
  clear hS hbS hb1
  by_cases hk : kindI k = kindI k2
  · have hk2 : (kindI k != kindI k2) = false := by simpa using hk
    have HK := Lib.hid hk
    clear hk
    by_cases k1 : k = 1
    · subst k1
      go_wp2_with (go_at_call 80; refine (way_c _ _ _).mono ?_; rintro e w3 ⟨rfl, rfl⟩)
      go_ret
      exact ⟨ret_int (by rw [HR.out]; simp [HK.out, wayI, cmpI]), HBS.out⟩
    by_cases kk2 : k = 2
    · subst kk2
      go_wp2_with (go_at_call 81; refine (floats1_c _ _ _).mono ?_; rintro e w3 ⟨rfl, rfl⟩)
      go_ret
      exact ⟨ret_int (by rw [HR.out]; simp [HK.out]), HBS.out⟩
    by_cases k3 : k = 3
    · subst k3
      go_wp2_with (go_at_call 80; refine (way_c _ _ _).mono ?_; rintro e w3 ⟨rfl, rfl⟩)
      go_ret
      refine ⟨ret_int (by rw [HR.out, ByteArray.toList_eq, ByteArray.toList_eq, text_way]; simp [HK.out]), HBS.out⟩
    by_cases k4 : k = 4
    · subst k4
      go_wp2_with fail
      go_loopw [7] (fun j wr => ∃ m : Nat, m ≤ l.length ∧ m ≤ l2.length ∧ j = .int .i64 m ∧ V.likeTo l l2 m ∧ two w wr 4 i f s (.slice a l.length c) k2 i2 f2 s2 (.slice b l2.length d)) (fun i _ => l.length - (intOf i).toNat)
      case atStart => exact ⟨0, by omega, by omega, rfl, fun j hj => by omega, HS.out⟩
      case round =>
        obtain ⟨m, hm1, hm2, rfl, hlike, hS⟩ := hrel
        have HLK := Lib.hid hlike
        have HS := Lib.hid hS
        clear hlike c0 c1 c2 c3 c4 d0 d1 d2 d3 d4 hzS
        obtain ⟨⟨_, _, _, _, c4⟩, ⟨_, _, _, _, d4⟩, hbS, hzS⟩ := hS
        have hz0 : w.heap.size < wr.heap.size := by omega
        by_cases hlt : m < l.length
        · obtain ⟨b1, o1, rfl, he1⟩ := HA.out.resolve_left (fun e => by simp [e] at hlt)
          have HE1 := Lib.hid (he1.below hbS)
          clear he1
          by_cases hlt2 : m < l2.length
          · obtain ⟨b2, o2, rfl, he2⟩ := HBb.out.resolve_left (fun e => by simp [e] at hlt2)
            have HE2 := Lib.hid (he2.below hbS)
            clear he2 hbS
            obtain ⟨hD, sa, sc, e0, e1, e2, e3, e4, hv⟩ := HE1.out.get hlt
            obtain ⟨hD2, sa2, sc2, f0, f1, f2, f3, f4, hv2⟩ := HE2.out.get hlt2
            have HV := Lib.hid hv
            have HV2 := Lib.hid hv2
            have hb1 : b1 < wr.heap.size := World.block_lt_of_cell? wr _ e0
            have hb2 : b2 < wr.heap.size := World.block_lt_of_cell? wr _ f0
            clear hv hv2
            go_wp2_with fail
            go_region_held3 (fun w' => Held wr w') (first | assumption | exact Held.start | exact Held.keep hb5 (by assumption))
              (first | (go_at_call 58; refine (IH.out _ (List.getElem_mem _) _ _ _ _ D E (HV.out.held (by assumption)) (HV2.out.held (by assumption))).mono ?_; rintro e w5 ⟨rfl, hb5⟩))
            have hS5 : Held wr w5 := by assumption
            have HT := Lib.hid (two.keep hS5.2 HS.out)
            clear hS5 hb5 hb1 hb2 e0 e1 e2 e3 e4 f0 f1 f2 f3 f4
            cases hx : V.ord l[m] l2[m] != 0
            · have HX0 := Lib.hid (show V.ord l[m] l2[m] = 0 by simpa using hx)
              go_wp2_with fail
              go_roundw
              case rel => exact ⟨m + 1, by omega, by omega, by go_num, V.likeTo_succ HLK.out hlt hlt2 HX0.out, HT.out⟩
              case measure => simp [intOf]; omega
            · have HX0 := Lib.hid (V.ords_at l l2 m HLK.out hlt hlt2 (by simpa using hx))
              go_wp2_with fail
              go_ret
              exact ⟨ret_int (by rw [HR.out]; simp [HK.out, HX0.out]), HT.out.2.2.1⟩
          · go_wp2_with (go_at_call 80; refine (way_c _ _ _).mono ?_; rintro e w3 ⟨rfl, rfl⟩)
            go_ret
            exact ⟨ret_int (by rw [HR.out]; simp [HK.out, V.ords_end l l2 m HLK.out (by omega), wayI, cmpI]), HS.out.2.2.1⟩
        · go_wp2_with (go_at_call 80; refine (way_c _ _ _).mono ?_; rintro e w3 ⟨rfl, rfl⟩)
          go_ret
          exact ⟨ret_int (by rw [HR.out]; simp [HK.out, V.ords_end l l2 m HLK.out (by omega), wayI, cmpI]), HS.out.2.2.1⟩
    · go_wp2_with fail
      go_ret
      exact ⟨ret_int (by rw [HR.out]; simp [HK.out, k1, kk2, k3, k4]), HBS.out⟩
  · have hk2 : (kindI k != kindI k2) = true := by simpa using hk
    have HK := Lib.hid hk
    clear hk
    go_wp2_with (go_at_call 80; refine (way_c _ _ _).mono ?_; rintro e w3 ⟨rfl, rfl⟩)
    go_ret
    exact ⟨ret_int (by rw [HR.out]; simp [HK.out, wayI, cmpI]), HBS.out⟩
end Go.Proofs.Ytkhgbbloeeaceaa
