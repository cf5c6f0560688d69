/- WireReads: the walk. -/
import Derived.Test.YtoddajaepnfgnaaRh
namespace Go.Proofs.Ytoddajaepnfgnaa
open Go Go.RowKit
set_option maxRecDepth 16000
attribute [local go_sem ↓] run_store_float

theorem wireReads_long (a : Option Addr) (c : Nat) (rs : List Int) (k i : Int) (f : Nat) (s : ByteArray) (l : List V) (va : Option Addr) (vc : Nat) (at_ x : Int) (cut : Bool) (w : World)
    (hl : rs.length ≤ c ∧ c ≤ 9223372036854775807) (hc : a = none → c = 0) (hz : BIn w a rs) (hat : 0 ≤ at_ ∧ at_ ≤ 65535) (hx : 0 ≤ x ∧ x ≤ 255)
    (hv : VIn (fun _ => True) w (V.mk k i f s l) (.slice va l.length vc)) (h : (300 : Int) < rs.length) :
    Calls Try.prog 4 #[.slice a rs.length c, .agg #[.int .i64 k, .int .i64 i, .float .f64 f, .string s, .slice va l.length vc], .int .u16 at_, .int .u8 x, .bool cut] w fun e w' => e = .returned (.bool true) ∧ Below w.heap.size w w' := by
  have HZ := Lib.hid hz
  have HV := Lib.hid (show VIn (fun b => b < w.heap.size) w (V.mk k i f s l) (.slice va l.length vc) from hv.keep (fun _ _ _ => rfl) (fun b _ hlt => hlt))
  have HC := Lib.hid hc
  have HAL := Lib.hid (one.start0 (w0 := w) (k := k) (i := i) (f := f) (s := s) (sl := .slice va l.length vc) (t := 26))
  clear hz hv hc
  go_enter Try.func4, Try.ntmps4
  go_wp2_with fail
  refine (known3_c _).mono ?_
  rintro e w1 ⟨rfl, hb1⟩
  have H1 := Lib.hid (one.keep hb1 HAL.out)
  obtain ⟨⟨c0, c1, c2', c3, c4⟩, _, _⟩ := H1.out
  clear hb1
  go_wp2_with fail
  go_ret
  exact ⟨rfl, H1.out.2.1⟩

theorem wireReads_light (a : Option Addr) (c : Nat) (rs : List Int) (k i : Int) (f : Nat) (s : ByteArray) (l : List V) (va : Option Addr) (vc : Nat) (at_ x : Int) (cut : Bool) (w : World)
    (hl : rs.length ≤ c ∧ c ≤ 9223372036854775807) (hc : a = none → c = 0) (hz : BIn w a rs) (hat : 0 ≤ at_ ∧ at_ ≤ 65535) (hx : 0 ≤ x ∧ x ≤ 255)
    (hv : VIn (fun _ => True) w (V.mk k i f s l) (.slice va l.length vc)) (h0 : (rs.length : Int) ≤ 300) (h : (V.mk k i f s l).light = false) :
    Calls Try.prog 4 #[.slice a rs.length c, .agg #[.int .i64 k, .int .i64 i, .float .f64 f, .string s, .slice va l.length vc], .int .u16 at_, .int .u8 x, .bool cut] w fun e w' => e = .returned (.bool true) ∧ Below w.heap.size w w' := by
  have HZ := Lib.hid hz
  have HV := Lib.hid (show VIn (fun b => b < w.heap.size) w (V.mk k i f s l) (.slice va l.length vc) from hv.keep (fun _ _ _ => rfl) (fun b _ hlt => hlt))
  have HC := Lib.hid hc
  have HAL := Lib.hid (one.start0 (w0 := w) (k := k) (i := i) (f := f) (s := s) (sl := .slice va l.length vc) (t := 26))
  clear hz hv hc
  go_enter Try.func4, Try.ntmps4
  go_wp2_with fail
  refine (known3_c _).mono ?_
  rintro e w1 ⟨rfl, hb1⟩
  have H1 := Lib.hid (one.keep hb1 HAL.out)
  obtain ⟨⟨c0, c1, c2', c3, c4⟩, _, _⟩ := H1.out
  clear hb1
  go_wp2_with fail
  refine (light_c (V.mk k i f s l) w1 _ _ (HV.out.below H1.out.2.1)).mono ?_
  rintro e w2 ⟨rfl, hb2⟩
  have H2 := Lib.hid (one.keep hb2 H1.out)
  clear hb2 c0 c1 c2' c3 c4 HAL
  rw [h]
  go_wp2_with fail
  go_ret
  exact ⟨rfl, H2.out.2.1⟩

set_option maxHeartbeats 4000000 in
theorem wireReads_err (a : Option Addr) (c : Nat) (rs : List Int) (k i : Int) (f : Nat) (s : ByteArray) (l : List V) (va : Option Addr) (vc : Nat) (at_ x : Int) (cut : Bool) (w : World)
    (hl : rs.length ≤ c ∧ c ≤ 9223372036854775807) (hc : a = none → c = 0) (hz : BIn w a rs) (hat : 0 ≤ at_ ∧ at_ ≤ 65535) (hx : 0 ≤ x ∧ x ≤ 255)
    (hv : VIn (fun _ => True) w (V.mk k i f s l) (.slice va l.length vc)) (h0 : (rs.length : Int) ≤ 300) (h : (V.mk k i f s l).light = true) (hch : ¬ (V.mk k i f s l).check = 0) :
    Calls Try.prog 4 #[.slice a rs.length c, .agg #[.int .i64 k, .int .i64 i, .float .f64 f, .string s, .slice va l.length vc], .int .u16 at_, .int .u8 x, .bool cut] w fun e w' => e = .returned (.bool true) ∧ Below w.heap.size w w' := by
  have HVP := Lib.hid (show vput [] (V.mk k i f s l) = ([], (V.mk k i f s l).check) by unfold vput; rw [if_neg hch])
  generalize (V.mk k i f s l).check = E at HVP hch
  have HZ := Lib.hid hz
  have HV := Lib.hid (show VIn (fun b => b < w.heap.size) w (V.mk k i f s l) (.slice va l.length vc) from hv.keep (fun _ _ _ => rfl) (fun b _ hlt => hlt))
  have HC := Lib.hid hc
  have HAL := Lib.hid (one.start0 (w0 := w) (k := k) (i := i) (f := f) (s := s) (sl := .slice va l.length vc) (t := 26))
  clear hz hv hc
  go_enter Try.func4, Try.ntmps4
  go_wp2_with fail
  refine (known3_c _).mono ?_
  rintro e w1 ⟨rfl, hb1⟩
  have H1 := Lib.hid (one.keep hb1 HAL.out)
  obtain ⟨⟨c0, c1, c2', c3, c4⟩, _, _⟩ := H1.out
  clear hb1
  go_wp2_with fail
  refine (light_c (V.mk k i f s l) w1 _ _ (HV.out.below H1.out.2.1)).mono ?_
  rintro e w2 ⟨rfl, hb2⟩
  have H2 := Lib.hid (one.keep hb2 H1.out)
  clear hb2 c0 c1 c2' c3 c4 HAL
  rw [h]
  obtain ⟨⟨c0, c1, c2', c3', c4⟩, _, _⟩ := H2.out
  go_wp2_with fail
  have hP1 := Put1_c (V.mk k i f s l) w.heap.size (.slice none 0 0) [] w2 (.slice va l.length vc) Bs.nil H2.out.2.1.size (by simp) (HV.out.below H2.out.2.1)
  rw [HVP.out] at hP1
  refine hP1.mono ?_
  rintro e w3 ⟨sl3, rfl, hap3⟩
  have H3 := Lib.hid (one.keep (apn_below (Nat.le_refl _) hap3) H2.out)
  have HO3 := Lib.hid (hap3.ow ⟨[], World.ownsRow_nil _ _ _ _⟩)
  clear hap3 hP1 c0 c1 c2' c3' c4
  obtain ⟨a3, c3, rfl, hl3, hc3, hbin3⟩ := (show Bs w3 w.heap.size sl3 [] from .inl HO3.out).binB (fun z hz => by cases hz) (by simp)
  simp only [List.length_nil] at hl3 ⊢
  go_wp2_with fail
  have hbw5 : Below w.heap.size w (w3.alloc (.cells #[.slice a rs.length c, .slice a3 0 c3] 22)) := H3.out.2.1.alloc H3.out.2.1.size _
  have hrow : (w3.alloc (.cells #[.slice a rs.length c, .slice a3 0 c3] 22)).heap[w3.heap.size]? = some (.cells #[.slice a rs.length c, .slice a3 0 c3] 22) := block_alloc_at _ rfl
  have hw5 : ([] : List Int).length = 0 ∧ (0 ≤ c3 ∧ c3 ≤ 9223372036854775807) ∧ (a3 = none → c3 = 0) ∧ 0 ≤ 4096 := ⟨rfl, hl3, hc3, by omega⟩
  have hy2 : BIn (w3.alloc (.cells #[.slice a rs.length c, .slice a3 0 c3] 22)) a3 [] := fun j hj => by cases hj
  generalize (w3.alloc (.cells #[.slice a rs.length c, .slice a3 0 c3] 22)) = w5 at *
  generalize w3.heap.size = vb at *
  clear hbin3 H3 HO3 H2 H1 hl3 hc3
  have HBW := Lib.hid (show Below w.heap.size w w5 from hbw5)
  have HY1 := Lib.hid (BIn.below HZ.out hbw5)
  have HY2 := Lib.hid hy2
  have HW := Lib.hid hw5
  have HR := Lib.hid hrow
  clear hbw5 hy2 hw5 hrow
  go_loopw [60] (fun j wr => ∃ m : Nat, m ≤ 2 ∧ j = .int .i64 m ∧ Below w5.heap.size w5 wr) (fun j _ => 2 - (intOf j).toNat)
  case atStart => exact ⟨0, by omega, rfl, Below.refl _ _⟩
  case round =>
    obtain ⟨m, hm, rfl, hbr⟩ := hrel
    have hrr := block_below hbr HR.out
    have d0 : wr.cell? ⟨vb, 0, none⟩ = some (.slice a rs.length c) := by simp [World.cell?, hrr]
    have d1 : wr.cell? ⟨vb, 1, none⟩ = some (.slice a3 0 c3) := by simp [World.cell?, hrr]
    have HBR := Lib.hid (HBW.out.trans (hbr.mono HBW.out.size))
    have HB5 := Lib.hid hbr
    have HZ1 := Lib.hid (HY1.out.below hbr)
    have HZ2 := Lib.hid (HY2.out.below hbr)
    clear hbr hrr
    rcases (show m = 0 ∨ m = 1 ∨ m = 2 by omega) with rfl | rfl | rfl
    case inr.inr =>
      go_wp2_with fail
      go_ret
      exact ⟨rfl, HBR.out⟩
    case inl =>
      go_wp2_with fail
      obtain ⟨rv, hrv⟩ : ∃ rv, rv = vread (rd true 9 rs) := ⟨_, rfl⟩
      refine (Read2_n (N := rs.length) hrv.symm rfl ⟨by omega, hl⟩ HC.out HZ1.out).mono ?_
      rintro e w6 ⟨sa6, sc6, rfl, hv6, hb6⟩
      obtain ⟨⟨rk, ri, rf, rs', rl⟩, rn, re⟩ := rv
      simp only [V.k_mk, V.i_mk, V.f_mk, V.s_mk, V.l_mk] at hv6 ⊢
      have HV6 := Lib.hid hv6
      have HB6 := Lib.hid hb6
      have HRV := Lib.hid hrv
      clear hv6 hb6 hrv d0 d1
      go_wp2_with fail
      have HA6 := Lib.hid ((Below.refl w6.heap.size w6).alloc (Nat.le_refl _) (.cells #[.int .i64 rk, .int .i64 ri, .float .f64 rf, .string rs', .slice sa6 rl.length sc6] 26))
      refine (Read1_n (N := rs.length) (show vread (rd false 9 rs) = _ from (vread_same _).trans HRV.out.symm) rfl ⟨by omega, hl⟩ HC.out ((HZ1.out.below HB6.out).below HA6.out)).mono ?_
      rintro e w7 ⟨sa7, sc7, rfl, hv7, hb7⟩
      simp only [V.k_mk, V.i_mk, V.f_mk, V.s_mk, V.l_mk] at hv7 ⊢
      have HV7 := Lib.hid hv7
      have HB7 := Lib.hid hb7
      obtain ⟨⟨e0, e1, e2, e3, e4⟩, _⟩ := cells_of_block5 (block_below hb7 (block_alloc_at (w := w6) (.cells #[.int .i64 rk, .int .i64 ri, .float .f64 rf, .string rs', .slice sa6 rl.length sc6] 26) rfl))
      have hq6 : w6.heap.size < w7.heap.size := World.block_lt_of_cell? _ _ e0
      clear hv7 hb7
      go_wp2_with fail
      have HA7 := Lib.hid ((Below.refl w7.heap.size w7).alloc (Nat.le_refl _) (.cells #[.int .i64 rk, .int .i64 ri, .float .f64 rf, .string rs', .slice sa7 rl.length sc7] 26))
      refine (same_c (V.mk rk ri rf rs' rl) (V.mk rk ri rf rs' rl) _ _ _ _ _ (((HV6.out.below HA6.out).below HB7.out).below HA7.out) (HV7.out.below HA7.out)).mono ?_
      rintro e w8 ⟨rfl, hb8⟩
      rw [V.same_self]
      have HB8 := Lib.hid (((((HB5.out.trans (HB6.out.mono HB5.out.size)).trans (HA6.out.mono (Nat.le_trans HB5.out.size HB6.out.size))).trans (HB7.out.mono (by have := HB5.out.size; have := HB6.out.size; simp; omega))).trans (HA7.out.mono (by have := HB5.out.size; have := HB6.out.size; omega))).trans (hb8.mono (by have := HB5.out.size; have := HB6.out.size; simp; omega)))
      clear hb8 e0 e1 e2 e3 e4
      go_wp2_with fail
      go_roundw
      case rel => exact ⟨1, by omega, by go_num, HB8.out⟩
      case measure => simp [intOf]
    case inr.inl =>
      go_wp2_with fail
      obtain ⟨rv, hrv⟩ : ∃ rv, rv = vread (rd true 9 ([] : List Int)) := ⟨_, rfl⟩
      refine (Read2_n (N := 0) hrv.symm HW.out.1 ⟨by have := HW.out.2.2.2; omega, HW.out.2.1⟩ HW.out.2.2.1 HZ2.out).mono ?_
      rintro e w6 ⟨sa6, sc6, rfl, hv6, hb6⟩
      obtain ⟨⟨rk, ri, rf, rs', rl⟩, rn, re⟩ := rv
      simp only [V.k_mk, V.i_mk, V.f_mk, V.s_mk, V.l_mk] at hv6 ⊢
      have HV6 := Lib.hid hv6
      have HB6 := Lib.hid hb6
      have HRV := Lib.hid hrv
      clear hv6 hb6 hrv d0 d1
      go_wp2_with fail
      have HA6 := Lib.hid ((Below.refl w6.heap.size w6).alloc (Nat.le_refl _) (.cells #[.int .i64 rk, .int .i64 ri, .float .f64 rf, .string rs', .slice sa6 rl.length sc6] 26))
      refine (Read1_n (N := 0) (show vread (rd false 9 ([] : List Int)) = _ from (vread_same _).trans HRV.out.symm) HW.out.1 ⟨by have := HW.out.2.2.2; omega, HW.out.2.1⟩ HW.out.2.2.1 ((HZ2.out.below HB6.out).below HA6.out)).mono ?_
      rintro e w7 ⟨sa7, sc7, rfl, hv7, hb7⟩
      simp only [V.k_mk, V.i_mk, V.f_mk, V.s_mk, V.l_mk] at hv7 ⊢
      have HV7 := Lib.hid hv7
      have HB7 := Lib.hid hb7
      obtain ⟨⟨e0, e1, e2, e3, e4⟩, _⟩ := cells_of_block5 (block_below hb7 (block_alloc_at (w := w6) (.cells #[.int .i64 rk, .int .i64 ri, .float .f64 rf, .string rs', .slice sa6 rl.length sc6] 26) rfl))
      have hq6 : w6.heap.size < w7.heap.size := World.block_lt_of_cell? _ _ e0
      clear hv7 hb7
      go_wp2_with fail
      have HA7 := Lib.hid ((Below.refl w7.heap.size w7).alloc (Nat.le_refl _) (.cells #[.int .i64 rk, .int .i64 ri, .float .f64 rf, .string rs', .slice sa7 rl.length sc7] 26))
      refine (same_c (V.mk rk ri rf rs' rl) (V.mk rk ri rf rs' rl) _ _ _ _ _ (((HV6.out.below HA6.out).below HB7.out).below HA7.out) (HV7.out.below HA7.out)).mono ?_
      rintro e w8 ⟨rfl, hb8⟩
      rw [V.same_self]
      have HB8 := Lib.hid (((((HB5.out.trans (HB6.out.mono HB5.out.size)).trans (HA6.out.mono (Nat.le_trans HB5.out.size HB6.out.size))).trans (HB7.out.mono (by have := HB5.out.size; have := HB6.out.size; simp; omega))).trans (HA7.out.mono (by have := HB5.out.size; have := HB6.out.size; omega))).trans (hb8.mono (by have := HB5.out.size; have := HB6.out.size; simp; omega)))
      clear hb8 e0 e1 e2 e3 e4
      go_wp2_with fail
      go_roundw
      case rel => exact ⟨2, by omega, by go_num, HB8.out⟩
      case measure => simp [intOf]

set_option maxHeartbeats 4000000 in
theorem wireReads_ok (a : Option Addr) (c : Nat) (rs : List Int) (k i : Int) (f : Nat) (s : ByteArray) (l : List V) (va : Option Addr) (vc : Nat) (at_ x : Int) (cut : Bool) (w : World)
    (hl : rs.length ≤ c ∧ c ≤ 9223372036854775807) (hc : a = none → c = 0) (hz : BIn w a rs) (hat : 0 ≤ at_ ∧ at_ ≤ 65535) (hx : 0 ≤ x ∧ x ≤ 255)
    (hv : VIn (fun _ => True) w (V.mk k i f s l) (.slice va l.length vc)) (h0 : (rs.length : Int) ≤ 300) (h : (V.mk k i f s l).light = true) (hch : (V.mk k i f s l).check = 0) (hcut : cut = false) :
    Calls Try.prog 4 #[.slice a rs.length c, .agg #[.int .i64 k, .int .i64 i, .float .f64 f, .string s, .slice va l.length vc], .int .u16 at_, .int .u8 x, .bool cut] w fun e w' => e = .returned (.bool true) ∧ Below w.heap.size w w' := by
  subst hcut
  have HVP := Lib.hid (show vput [] (V.mk k i f s l) = ((V.mk k i f s l).bytes, 0) by unfold vput; rw [if_pos hch]; rfl)
  have HBY := Lib.hid (V.bytes_byt _ (V.check_zero hch).1)
  have hbl : 0 < (V.mk k i f s l).bytes.length := by rw [V.bytes_mk]; simp
  have hbl2 : (V.mk k i f s l).bytes.length ≤ 4096 := by have := V.bytes_length _ (V.check_zero hch).1; have := (V.check_zero hch).2.2; omega
  clear hch
  generalize (V.mk k i f s l).bytes = bs at *
  have HZ := Lib.hid hz
  have HV := Lib.hid (show VIn (fun b => b < w.heap.size) w (V.mk k i f s l) (.slice va l.length vc) from hv.keep (fun _ _ _ => rfl) (fun b _ hlt => hlt))
  have HC := Lib.hid hc
  have HAL := Lib.hid (one.start0 (w0 := w) (k := k) (i := i) (f := f) (s := s) (sl := .slice va l.length vc) (t := 26))
  clear hz hv hc
  go_enter Try.func4, Try.ntmps4
  go_wp2_with fail
  refine (known3_c _).mono ?_
  rintro e w1 ⟨rfl, hb1⟩
  have H1 := Lib.hid (one.keep hb1 HAL.out)
  obtain ⟨⟨c0, c1, c2', c3, c4⟩, _, _⟩ := H1.out
  clear hb1
  go_wp2_with fail
  refine (light_c (V.mk k i f s l) w1 _ _ (HV.out.below H1.out.2.1)).mono ?_
  rintro e w2 ⟨rfl, hb2⟩
  have H2 := Lib.hid (one.keep hb2 H1.out)
  clear hb2 c0 c1 c2' c3 c4 HAL
  rw [h]
  obtain ⟨⟨c0, c1, c2', c3', c4⟩, _, _⟩ := H2.out
  go_wp2_with fail
  have hP1 := Put1_c (V.mk k i f s l) w.heap.size (.slice none 0 0) [] w2 (.slice va l.length vc) Bs.nil H2.out.2.1.size (by simp) (HV.out.below H2.out.2.1)
  rw [HVP.out] at hP1
  refine hP1.mono ?_
  rintro e w3 ⟨sl3, rfl, hap3⟩
  have H3 := Lib.hid (one.keep (apn_below (Nat.le_refl _) hap3) H2.out)
  have HO3 := Lib.hid (hap3.ow ⟨[], World.ownsRow_nil _ _ _ _⟩)
  clear hap3 hP1 c0 c1 c2' c3' c4
  obtain ⟨g, c3, rfl, hc3, hc3m⟩ := HO3.out.form hbl
  obtain ⟨N, hN⟩ : ∃ N, N = bs.length := ⟨_, rfl⟩
  rw [← hN] at hbl hbl2 hc3 ⊢
  have HN := Lib.hid hN
  obtain ⟨J, hmod⟩ : ∃ J : Nat, at_ % (N : Int) = (J : Int) := ⟨(at_ % (N : Int)).toNat, (Int.toNat_of_nonneg (Int.emod_nonneg _ (by omega))).symm⟩
  have hJ : J < N := by have := Int.emod_lt_of_pos at_ (show (0 : Int) < N by omega); omega
  have HG := Lib.hid (show w.heap.size ≤ g from HO3.out.cell.2.2.2.1)
  obtain ⟨hJb, hcJ, hfJ⟩ : ∃ hJb : J < bs.length, w3.cell? ⟨g, J, none⟩ = some (.int .u8 bs[J]) ∧ w3.frozen? ⟨g, J, none⟩ = false := by
    have e := HN.out
    have h1 : Own w3 w.heap.size (.slice (some ⟨g, 0, none⟩) N c3) bs := by rw [e]; exact HO3.out
    obtain ⟨_, h2, h3, _⟩ := h1.cell
    exact ⟨by omega, h2 J (by omega), h3 J⟩
  have hy0 := (HBY.out : Byt _) bs[J] (List.getElem_mem hJb)
  generalize hyJ : bs[J] = y0 at hcJ hy0
  obtain ⟨y1, hy1⟩ : ∃ y1, bits .xor .u8 y0 x = y1 := ⟨_, rfl⟩
  have hy1b := bits_u8 .xor y0 x ⟨_, rfl⟩
  rw [hy1] at hy1b
  clear hN hyJ
  go_wp2_with fail
  have hbw4 : Below w.heap.size w (w3.setCell ⟨g, J, none⟩ (.int .u8 y1)) := H3.out.2.1.setCell HG.out _
  have hst : BIn (w3.setCell ⟨g, J, none⟩ (.int .u8 y1)) (some ⟨g, 0, none⟩) (bs.set J y1) := Own.store HO3.out HBY.out J hJb hy1b
  have hsz : (w3.setCell ⟨g, J, none⟩ (.int .u8 y1)).heap.size = w3.heap.size := by simp [World.setCell]
  generalize w3.setCell ⟨g, J, none⟩ (.int .u8 y1) = w4 at *
  have hbw5 : Below w.heap.size w (w4.alloc (.cells #[.slice a rs.length c, .slice (some ⟨g, 0, none⟩) N c3] 22)) := hbw4.alloc hbw4.size _
  have hrow : (w4.alloc (.cells #[.slice a rs.length c, .slice (some ⟨g, 0, none⟩) N c3] 22)).heap[w3.heap.size]? = some (.cells #[.slice a rs.length c, .slice (some ⟨g, 0, none⟩) N c3] 22) := by rw [← hsz]; exact block_alloc_at _ rfl
  have hw5 : (bs.set J y1).length = N ∧ (N ≤ c3 ∧ c3 ≤ 9223372036854775807) ∧ ((some ⟨g, 0, none⟩ : Option Addr) = none → c3 = 0) ∧ N ≤ 4096 := ⟨by have := HN.out; simp <;> omega, ⟨by omega, hc3m⟩, (fun e => by cases e), by omega⟩
  have hy2 : BIn (w4.alloc (.cells #[.slice a rs.length c, .slice (some ⟨g, 0, none⟩) N c3] 22)) (some ⟨g, 0, none⟩) (bs.set J y1) := hst.below ((Below.refl _ _).alloc (Nat.le_refl _) _)
  generalize (w4.alloc (.cells #[.slice a rs.length c, .slice (some ⟨g, 0, none⟩) N c3] 22)) = w5 at *
  generalize w3.heap.size = vb at *
  generalize hzs3 : (bs.set J y1) = zs3 at *
  clear hst hbw4 hsz H3 HO3 H2 H1 hmod hcJ hfJ hJb hzs3
  generalize (some ⟨g, 0, none⟩ : Option Addr) = a3 at *
  have HBW := Lib.hid (show Below w.heap.size w w5 from hbw5)
  have HY1 := Lib.hid (BIn.below HZ.out hbw5)
  have HY2 := Lib.hid hy2
  have HW := Lib.hid hw5
  have HR := Lib.hid hrow
  clear hbw5 hy2 hw5 hrow
  go_loopw [60] (fun j wr => ∃ m : Nat, m ≤ 2 ∧ j = .int .i64 m ∧ Below w5.heap.size w5 wr) (fun j _ => 2 - (intOf j).toNat)
  case atStart => exact ⟨0, by omega, rfl, Below.refl _ _⟩
  case round =>
    obtain ⟨m, hm, rfl, hbr⟩ := hrel
    have hrr := block_below hbr HR.out
    have d0 : wr.cell? ⟨vb, 0, none⟩ = some (.slice a rs.length c) := by simp [World.cell?, hrr]
    have d1 : wr.cell? ⟨vb, 1, none⟩ = some (.slice a3 N c3) := by simp [World.cell?, hrr]
    have HBR := Lib.hid (HBW.out.trans (hbr.mono HBW.out.size))
    have HB5 := Lib.hid hbr
    have HZ1 := Lib.hid (HY1.out.below hbr)
    have HZ2 := Lib.hid (HY2.out.below hbr)
    clear hbr hrr
    rcases (show m = 0 ∨ m = 1 ∨ m = 2 by omega) with rfl | rfl | rfl
    case inr.inr =>
      go_wp2_with fail
      go_ret
      exact ⟨rfl, HBR.out⟩
    case inl =>
      go_wp2_with fail
      obtain ⟨rv, hrv⟩ : ∃ rv, rv = vread (rd true 9 rs) := ⟨_, rfl⟩
      refine (Read2_n (N := rs.length) hrv.symm rfl ⟨by omega, hl⟩ HC.out HZ1.out).mono ?_
      rintro e w6 ⟨sa6, sc6, rfl, hv6, hb6⟩
      obtain ⟨⟨rk, ri, rf, rs', rl⟩, rn, re⟩ := rv
      simp only [V.k_mk, V.i_mk, V.f_mk, V.s_mk, V.l_mk] at hv6 ⊢
      have HV6 := Lib.hid hv6
      have HB6 := Lib.hid hb6
      have HRV := Lib.hid hrv
      clear hv6 hb6 hrv d0 d1
      go_wp2_with fail
      have HA6 := Lib.hid ((Below.refl w6.heap.size w6).alloc (Nat.le_refl _) (.cells #[.int .i64 rk, .int .i64 ri, .float .f64 rf, .string rs', .slice sa6 rl.length sc6] 26))
      refine (Read1_n (N := rs.length) (show vread (rd false 9 rs) = _ from (vread_same _).trans HRV.out.symm) rfl ⟨by omega, hl⟩ HC.out ((HZ1.out.below HB6.out).below HA6.out)).mono ?_
      rintro e w7 ⟨sa7, sc7, rfl, hv7, hb7⟩
      simp only [V.k_mk, V.i_mk, V.f_mk, V.s_mk, V.l_mk] at hv7 ⊢
      have HV7 := Lib.hid hv7
      have HB7 := Lib.hid hb7
      obtain ⟨⟨e0, e1, e2, e3, e4⟩, _⟩ := cells_of_block5 (block_below hb7 (block_alloc_at (w := w6) (.cells #[.int .i64 rk, .int .i64 ri, .float .f64 rf, .string rs', .slice sa6 rl.length sc6] 26) rfl))
      have hq6 : w6.heap.size < w7.heap.size := World.block_lt_of_cell? _ _ e0
      clear hv7 hb7
      go_wp2_with fail
      have HA7 := Lib.hid ((Below.refl w7.heap.size w7).alloc (Nat.le_refl _) (.cells #[.int .i64 rk, .int .i64 ri, .float .f64 rf, .string rs', .slice sa7 rl.length sc7] 26))
      refine (same_c (V.mk rk ri rf rs' rl) (V.mk rk ri rf rs' rl) _ _ _ _ _ (((HV6.out.below HA6.out).below HB7.out).below HA7.out) (HV7.out.below HA7.out)).mono ?_
      rintro e w8 ⟨rfl, hb8⟩
      rw [V.same_self]
      have HB8 := Lib.hid (((((HB5.out.trans (HB6.out.mono HB5.out.size)).trans (HA6.out.mono (Nat.le_trans HB5.out.size HB6.out.size))).trans (HB7.out.mono (by have := HB5.out.size; have := HB6.out.size; simp; omega))).trans (HA7.out.mono (by have := HB5.out.size; have := HB6.out.size; omega))).trans (hb8.mono (by have := HB5.out.size; have := HB6.out.size; simp; omega)))
      clear hb8 e0 e1 e2 e3 e4
      go_wp2_with fail
      go_roundw
      case rel => exact ⟨1, by omega, by go_num, HB8.out⟩
      case measure => simp [intOf]
    case inr.inl =>
      go_wp2_with fail
      obtain ⟨rv, hrv⟩ : ∃ rv, rv = vread (rd true 9 zs3) := ⟨_, rfl⟩
      refine (Read2_n (N := N) hrv.symm HW.out.1 ⟨by have := HW.out.2.2.2; omega, HW.out.2.1⟩ HW.out.2.2.1 HZ2.out).mono ?_
      rintro e w6 ⟨sa6, sc6, rfl, hv6, hb6⟩
      obtain ⟨⟨rk, ri, rf, rs', rl⟩, rn, re⟩ := rv
      simp only [V.k_mk, V.i_mk, V.f_mk, V.s_mk, V.l_mk] at hv6 ⊢
      have HV6 := Lib.hid hv6
      have HB6 := Lib.hid hb6
      have HRV := Lib.hid hrv
      clear hv6 hb6 hrv d0 d1
      go_wp2_with fail
      have HA6 := Lib.hid ((Below.refl w6.heap.size w6).alloc (Nat.le_refl _) (.cells #[.int .i64 rk, .int .i64 ri, .float .f64 rf, .string rs', .slice sa6 rl.length sc6] 26))
      refine (Read1_n (N := N) (show vread (rd false 9 zs3) = _ from (vread_same _).trans HRV.out.symm) HW.out.1 ⟨by have := HW.out.2.2.2; omega, HW.out.2.1⟩ HW.out.2.2.1 ((HZ2.out.below HB6.out).below HA6.out)).mono ?_
      rintro e w7 ⟨sa7, sc7, rfl, hv7, hb7⟩
      simp only [V.k_mk, V.i_mk, V.f_mk, V.s_mk, V.l_mk] at hv7 ⊢
      have HV7 := Lib.hid hv7
      have HB7 := Lib.hid hb7
      obtain ⟨⟨e0, e1, e2, e3, e4⟩, _⟩ := cells_of_block5 (block_below hb7 (block_alloc_at (w := w6) (.cells #[.int .i64 rk, .int .i64 ri, .float .f64 rf, .string rs', .slice sa6 rl.length sc6] 26) rfl))
      have hq6 : w6.heap.size < w7.heap.size := World.block_lt_of_cell? _ _ e0
      clear hv7 hb7
      go_wp2_with fail
      have HA7 := Lib.hid ((Below.refl w7.heap.size w7).alloc (Nat.le_refl _) (.cells #[.int .i64 rk, .int .i64 ri, .float .f64 rf, .string rs', .slice sa7 rl.length sc7] 26))
      refine (same_c (V.mk rk ri rf rs' rl) (V.mk rk ri rf rs' rl) _ _ _ _ _ (((HV6.out.below HA6.out).below HB7.out).below HA7.out) (HV7.out.below HA7.out)).mono ?_
      rintro e w8 ⟨rfl, hb8⟩
      rw [V.same_self]
      have HB8 := Lib.hid (((((HB5.out.trans (HB6.out.mono HB5.out.size)).trans (HA6.out.mono (Nat.le_trans HB5.out.size HB6.out.size))).trans (HB7.out.mono (by have := HB5.out.size; have := HB6.out.size; simp; omega))).trans (HA7.out.mono (by have := HB5.out.size; have := HB6.out.size; omega))).trans (hb8.mono (by have := HB5.out.size; have := HB6.out.size; simp; omega)))
      clear hb8 e0 e1 e2 e3 e4
      go_wp2_with fail
      go_roundw
      case rel => exact ⟨2, by omega, by go_num, HB8.out⟩
      case measure => simp [intOf]

set_option maxHeartbeats 4000000 in
theorem wireReads_cut (a : Option Addr) (c : Nat) (rs : List Int) (k i : Int) (f : Nat) (s : ByteArray) (l : List V) (va : Option Addr) (vc : Nat) (at_ x : Int) (cut : Bool) (w : World)
    (hl : rs.length ≤ c ∧ c ≤ 9223372036854775807) (hc : a = none → c = 0) (hz : BIn w a rs) (hat : 0 ≤ at_ ∧ at_ ≤ 65535) (hx : 0 ≤ x ∧ x ≤ 255)
    (hv : VIn (fun _ => True) w (V.mk k i f s l) (.slice va l.length vc)) (h0 : (rs.length : Int) ≤ 300) (h : (V.mk k i f s l).light = true) (hch : (V.mk k i f s l).check = 0) (hcut : cut = true) :
    Calls Try.prog 4 #[.slice a rs.length c, .agg #[.int .i64 k, .int .i64 i, .float .f64 f, .string s, .slice va l.length vc], .int .u16 at_, .int .u8 x, .bool cut] w fun e w' => e = .returned (.bool true) ∧ Below w.heap.size w w' := by
  subst hcut
  have HVP := Lib.hid (show vput [] (V.mk k i f s l) = ((V.mk k i f s l).bytes, 0) by unfold vput; rw [if_pos hch]; rfl)
  have HBY := Lib.hid (V.bytes_byt _ (V.check_zero hch).1)
  have hbl : 0 < (V.mk k i f s l).bytes.length := by rw [V.bytes_mk]; simp
  have hbl2 : (V.mk k i f s l).bytes.length ≤ 4096 := by have := V.bytes_length _ (V.check_zero hch).1; have := (V.check_zero hch).2.2; omega
  clear hch
  generalize (V.mk k i f s l).bytes = bs at *
  have HZ := Lib.hid hz
  have HV := Lib.hid (show VIn (fun b => b < w.heap.size) w (V.mk k i f s l) (.slice va l.length vc) from hv.keep (fun _ _ _ => rfl) (fun b _ hlt => hlt))
  have HC := Lib.hid hc
  have HAL := Lib.hid (one.start0 (w0 := w) (k := k) (i := i) (f := f) (s := s) (sl := .slice va l.length vc) (t := 26))
  clear hz hv hc
  go_enter Try.func4, Try.ntmps4
  go_wp2_with fail
  refine (known3_c _).mono ?_
  rintro e w1 ⟨rfl, hb1⟩
  have H1 := Lib.hid (one.keep hb1 HAL.out)
  obtain ⟨⟨c0, c1, c2', c3, c4⟩, _, _⟩ := H1.out
  clear hb1
  go_wp2_with fail
  refine (light_c (V.mk k i f s l) w1 _ _ (HV.out.below H1.out.2.1)).mono ?_
  rintro e w2 ⟨rfl, hb2⟩
  have H2 := Lib.hid (one.keep hb2 H1.out)
  clear hb2 c0 c1 c2' c3 c4 HAL
  rw [h]
  obtain ⟨⟨c0, c1, c2', c3', c4⟩, _, _⟩ := H2.out
  go_wp2_with fail
  have hP1 := Put1_c (V.mk k i f s l) w.heap.size (.slice none 0 0) [] w2 (.slice va l.length vc) Bs.nil H2.out.2.1.size (by simp) (HV.out.below H2.out.2.1)
  rw [HVP.out] at hP1
  refine hP1.mono ?_
  rintro e w3 ⟨sl3, rfl, hap3⟩
  have H3 := Lib.hid (one.keep (apn_below (Nat.le_refl _) hap3) H2.out)
  have HO3 := Lib.hid (hap3.ow ⟨[], World.ownsRow_nil _ _ _ _⟩)
  clear hap3 hP1 c0 c1 c2' c3' c4
  obtain ⟨g, c3, rfl, hc3, hc3m⟩ := HO3.out.form hbl
  obtain ⟨N, hN⟩ : ∃ N, N = bs.length := ⟨_, rfl⟩
  rw [← hN] at hbl hbl2 hc3 ⊢
  have HN := Lib.hid hN
  obtain ⟨J, hmod⟩ : ∃ J : Nat, at_ % (N : Int) = (J : Int) := ⟨(at_ % (N : Int)).toNat, (Int.toNat_of_nonneg (Int.emod_nonneg _ (by omega))).symm⟩
  have hJ : J < N := by have := Int.emod_lt_of_pos at_ (show (0 : Int) < N by omega); omega
  have HG := Lib.hid (show w.heap.size ≤ g from HO3.out.cell.2.2.2.1)
  obtain ⟨hJb, hcJ, hfJ⟩ : ∃ hJb : J < bs.length, w3.cell? ⟨g, J, none⟩ = some (.int .u8 bs[J]) ∧ w3.frozen? ⟨g, J, none⟩ = false := by
    have e := HN.out
    have h1 : Own w3 w.heap.size (.slice (some ⟨g, 0, none⟩) N c3) bs := by rw [e]; exact HO3.out
    obtain ⟨_, h2, h3, _⟩ := h1.cell
    exact ⟨by omega, h2 J (by omega), h3 J⟩
  have hy0 := (HBY.out : Byt _) bs[J] (List.getElem_mem hJb)
  generalize hyJ : bs[J] = y0 at hcJ hy0
  obtain ⟨y1, hy1⟩ : ∃ y1, bits .xor .u8 y0 x = y1 := ⟨_, rfl⟩
  have hy1b := bits_u8 .xor y0 x ⟨_, rfl⟩
  rw [hy1] at hy1b
  clear hN hyJ
  go_wp2_with fail
  have hbw4 : Below w.heap.size w (w3.setCell ⟨g, J, none⟩ (.int .u8 y1)) := H3.out.2.1.setCell HG.out _
  have hst : BIn (w3.setCell ⟨g, J, none⟩ (.int .u8 y1)) (some ⟨g, 0, none⟩) ((bs.set J y1).take J) := (Own.store HO3.out HBY.out J hJb hy1b).take J
  have hsz : (w3.setCell ⟨g, J, none⟩ (.int .u8 y1)).heap.size = w3.heap.size := by simp [World.setCell]
  generalize w3.setCell ⟨g, J, none⟩ (.int .u8 y1) = w4 at *
  have hbw5 : Below w.heap.size w (w4.alloc (.cells #[.slice a rs.length c, .slice (some ⟨g, 0, none⟩) J c3] 22)) := hbw4.alloc hbw4.size _
  have hrow : (w4.alloc (.cells #[.slice a rs.length c, .slice (some ⟨g, 0, none⟩) J c3] 22)).heap[w3.heap.size]? = some (.cells #[.slice a rs.length c, .slice (some ⟨g, 0, none⟩) J c3] 22) := by rw [← hsz]; exact block_alloc_at _ rfl
  have hw5 : ((bs.set J y1).take J).length = J ∧ (J ≤ c3 ∧ c3 ≤ 9223372036854775807) ∧ ((some ⟨g, 0, none⟩ : Option Addr) = none → c3 = 0) ∧ J ≤ 4096 := ⟨by have := HN.out; simp <;> omega, ⟨by omega, hc3m⟩, (fun e => by cases e), by omega⟩
  have hy2 : BIn (w4.alloc (.cells #[.slice a rs.length c, .slice (some ⟨g, 0, none⟩) J c3] 22)) (some ⟨g, 0, none⟩) ((bs.set J y1).take J) := hst.below ((Below.refl _ _).alloc (Nat.le_refl _) _)
  generalize (w4.alloc (.cells #[.slice a rs.length c, .slice (some ⟨g, 0, none⟩) J c3] 22)) = w5 at *
  generalize w3.heap.size = vb at *
  generalize hzs3 : ((bs.set J y1).take J) = zs3 at *
  clear hst hbw4 hsz H3 HO3 H2 H1 hmod hcJ hfJ hJb hzs3
  generalize (some ⟨g, 0, none⟩ : Option Addr) = a3 at *
  have HBW := Lib.hid (show Below w.heap.size w w5 from hbw5)
  have HY1 := Lib.hid (BIn.below HZ.out hbw5)
  have HY2 := Lib.hid hy2
  have HW := Lib.hid hw5
  have HR := Lib.hid hrow
  clear hbw5 hy2 hw5 hrow
  go_loopw [60] (fun j wr => ∃ m : Nat, m ≤ 2 ∧ j = .int .i64 m ∧ Below w5.heap.size w5 wr) (fun j _ => 2 - (intOf j).toNat)
  case atStart => exact ⟨0, by omega, rfl, Below.refl _ _⟩
  case round =>
    obtain ⟨m, hm, rfl, hbr⟩ := hrel
    have hrr := block_below hbr HR.out
    have d0 : wr.cell? ⟨vb, 0, none⟩ = some (.slice a rs.length c) := by simp [World.cell?, hrr]
    have d1 : wr.cell? ⟨vb, 1, none⟩ = some (.slice a3 J c3) := by simp [World.cell?, hrr]
    have HBR := Lib.hid (HBW.out.trans (hbr.mono HBW.out.size))
    have HB5 := Lib.hid hbr
    have HZ1 := Lib.hid (HY1.out.below hbr)
    have HZ2 := Lib.hid (HY2.out.below hbr)
    clear hbr hrr
    rcases (show m = 0 ∨ m = 1 ∨ m = 2 by omega) with rfl | rfl | rfl
    case inr.inr =>
      go_wp2_with fail
      go_ret
      exact ⟨rfl, HBR.out⟩
    case inl =>
      go_wp2_with fail
      obtain ⟨rv, hrv⟩ : ∃ rv, rv = vread (rd true 9 rs) := ⟨_, rfl⟩
      refine (Read2_n (N := rs.length) hrv.symm rfl ⟨by omega, hl⟩ HC.out HZ1.out).mono ?_
      rintro e w6 ⟨sa6, sc6, rfl, hv6, hb6⟩
      obtain ⟨⟨rk, ri, rf, rs', rl⟩, rn, re⟩ := rv
      simp only [V.k_mk, V.i_mk, V.f_mk, V.s_mk, V.l_mk] at hv6 ⊢
      have HV6 := Lib.hid hv6
      have HB6 := Lib.hid hb6
      have HRV := Lib.hid hrv
      clear hv6 hb6 hrv d0 d1
      go_wp2_with fail
      have HA6 := Lib.hid ((Below.refl w6.heap.size w6).alloc (Nat.le_refl _) (.cells #[.int .i64 rk, .int .i64 ri, .float .f64 rf, .string rs', .slice sa6 rl.length sc6] 26))
      refine (Read1_n (N := rs.length) (show vread (rd false 9 rs) = _ from (vread_same _).trans HRV.out.symm) rfl ⟨by omega, hl⟩ HC.out ((HZ1.out.below HB6.out).below HA6.out)).mono ?_
      rintro e w7 ⟨sa7, sc7, rfl, hv7, hb7⟩
      simp only [V.k_mk, V.i_mk, V.f_mk, V.s_mk, V.l_mk] at hv7 ⊢
      have HV7 := Lib.hid hv7
      have HB7 := Lib.hid hb7
      obtain ⟨⟨e0, e1, e2, e3, e4⟩, _⟩ := cells_of_block5 (block_below hb7 (block_alloc_at (w := w6) (.cells #[.int .i64 rk, .int .i64 ri, .float .f64 rf, .string rs', .slice sa6 rl.length sc6] 26) rfl))
      have hq6 : w6.heap.size < w7.heap.size := World.block_lt_of_cell? _ _ e0
      clear hv7 hb7
      go_wp2_with fail
      have HA7 := Lib.hid ((Below.refl w7.heap.size w7).alloc (Nat.le_refl _) (.cells #[.int .i64 rk, .int .i64 ri, .float .f64 rf, .string rs', .slice sa7 rl.length sc7] 26))
      refine (same_c (V.mk rk ri rf rs' rl) (V.mk rk ri rf rs' rl) _ _ _ _ _ (((HV6.out.below HA6.out).below HB7.out).below HA7.out) (HV7.out.below HA7.out)).mono ?_
      rintro e w8 ⟨rfl, hb8⟩
      rw [V.same_self]
      have HB8 := Lib.hid (((((HB5.out.trans (HB6.out.mono HB5.out.size)).trans (HA6.out.mono (Nat.le_trans HB5.out.size HB6.out.size))).trans (HB7.out.mono (by have := HB5.out.size; have := HB6.out.size; simp; omega))).trans (HA7.out.mono (by have := HB5.out.size; have := HB6.out.size; omega))).trans (hb8.mono (by have := HB5.out.size; have := HB6.out.size; simp; omega)))
      clear hb8 e0 e1 e2 e3 e4
      go_wp2_with fail
      go_roundw
      case rel => exact ⟨1, by omega, by go_num, HB8.out⟩
      case measure => simp [intOf]
    case inr.inl =>
      go_wp2_with fail
      obtain ⟨rv, hrv⟩ : ∃ rv, rv = vread (rd true 9 zs3) := ⟨_, rfl⟩
      refine (Read2_n (N := J) hrv.symm HW.out.1 ⟨by have := HW.out.2.2.2; omega, HW.out.2.1⟩ HW.out.2.2.1 HZ2.out).mono ?_
      rintro e w6 ⟨sa6, sc6, rfl, hv6, hb6⟩
      obtain ⟨⟨rk, ri, rf, rs', rl⟩, rn, re⟩ := rv
      simp only [V.k_mk, V.i_mk, V.f_mk, V.s_mk, V.l_mk] at hv6 ⊢
      have HV6 := Lib.hid hv6
      have HB6 := Lib.hid hb6
      have HRV := Lib.hid hrv
      clear hv6 hb6 hrv d0 d1
      go_wp2_with fail
      have HA6 := Lib.hid ((Below.refl w6.heap.size w6).alloc (Nat.le_refl _) (.cells #[.int .i64 rk, .int .i64 ri, .float .f64 rf, .string rs', .slice sa6 rl.length sc6] 26))
      refine (Read1_n (N := J) (show vread (rd false 9 zs3) = _ from (vread_same _).trans HRV.out.symm) HW.out.1 ⟨by have := HW.out.2.2.2; omega, HW.out.2.1⟩ HW.out.2.2.1 ((HZ2.out.below HB6.out).below HA6.out)).mono ?_
      rintro e w7 ⟨sa7, sc7, rfl, hv7, hb7⟩
      simp only [V.k_mk, V.i_mk, V.f_mk, V.s_mk, V.l_mk] at hv7 ⊢
      have HV7 := Lib.hid hv7
      have HB7 := Lib.hid hb7
      obtain ⟨⟨e0, e1, e2, e3, e4⟩, _⟩ := cells_of_block5 (block_below hb7 (block_alloc_at (w := w6) (.cells #[.int .i64 rk, .int .i64 ri, .float .f64 rf, .string rs', .slice sa6 rl.length sc6] 26) rfl))
      have hq6 : w6.heap.size < w7.heap.size := World.block_lt_of_cell? _ _ e0
      clear hv7 hb7
      go_wp2_with fail
      have HA7 := Lib.hid ((Below.refl w7.heap.size w7).alloc (Nat.le_refl _) (.cells #[.int .i64 rk, .int .i64 ri, .float .f64 rf, .string rs', .slice sa7 rl.length sc7] 26))
      refine (same_c (V.mk rk ri rf rs' rl) (V.mk rk ri rf rs' rl) _ _ _ _ _ (((HV6.out.below HA6.out).below HB7.out).below HA7.out) (HV7.out.below HA7.out)).mono ?_
      rintro e w8 ⟨rfl, hb8⟩
      rw [V.same_self]
      have HB8 := Lib.hid (((((HB5.out.trans (HB6.out.mono HB5.out.size)).trans (HA6.out.mono (Nat.le_trans HB5.out.size HB6.out.size))).trans (HB7.out.mono (by have := HB5.out.size; have := HB6.out.size; simp; omega))).trans (HA7.out.mono (by have := HB5.out.size; have := HB6.out.size; omega))).trans (hb8.mono (by have := HB5.out.size; have := HB6.out.size; simp; omega)))
      clear hb8 e0 e1 e2 e3 e4
      go_wp2_with fail
      go_roundw
      case rel => exact ⟨2, by omega, by go_num, HB8.out⟩
      case measure => simp [intOf]

theorem wireReads_c (a : Option Addr) (c : Nat) (rs : List Int) (k i : Int) (f : Nat) (s : ByteArray) (l : List V) (va : Option Addr) (vc : Nat) (at_ x : Int) (cut : Bool) (w : World)
    (hl : rs.length ≤ c ∧ c ≤ 9223372036854775807) (hc : a = none → c = 0) (hz : BIn w a rs) (hat : 0 ≤ at_ ∧ at_ ≤ 65535) (hx : 0 ≤ x ∧ x ≤ 255)
    (hv : VIn (fun _ => True) w (V.mk k i f s l) (.slice va l.length vc)) :
    Calls Try.prog 4 #[.slice a rs.length c, .agg #[.int .i64 k, .int .i64 i, .float .f64 f, .string s, .slice va l.length vc], .int .u16 at_, .int .u8 x, .bool cut] w fun e w' => e = .returned (.bool true) ∧ Below w.heap.size w w' := by
  by_cases h0 : (rs.length : Int) ≤ 300
  · cases h : (V.mk k i f s l).light with
    | false => exact wireReads_light a c rs k i f s l va vc at_ x cut w hl hc hz hat hx hv h0 h
    | true =>
      by_cases hch : (V.mk k i f s l).check = 0
      · cases hcut : cut with
        | false => exact wireReads_ok a c rs k i f s l va vc at_ x false w hl hc hz hat hx hv h0 h hch rfl
        | true => exact wireReads_cut a c rs k i f s l va vc at_ x true w hl hc hz hat hx hv h0 h hch rfl
      · exact wireReads_err a c rs k i f s l va vc at_ x cut w hl hc hz hat hx hv h0 h hch
  · exact wireReads_long a c rs k i f s l va vc at_ x cut w hl hc hz hat hx hv (by omega)
end Go.Proofs.Ytoddajaepnfgnaa
