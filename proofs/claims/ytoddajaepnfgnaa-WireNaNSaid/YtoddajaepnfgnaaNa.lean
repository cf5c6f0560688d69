/- WireNaN: the walk. -/
import Derived.Test.YtoddajaepnfgnaaLk
import Derived.Test.YtoddajaepnfgnaaW
import Derived.Laws.Bits64b
namespace Go.Proofs.Ytoddajaepnfgnaa
open Go Go.RowKit
attribute [local go_sem ↓] run_store_float

theorem nan_no {a : Nat} (h : a % 9223372036854775808 ≤ infB) : nan a = false := by
  unfold nan Ieee.Format.order
  rw [read_eq]
  by_cases h1 : a % 9223372036854775808 < 4503599627370496
  · rw [if_pos h1]; simp [Ieee.Datum.order, Ieee.signed]
  rw [if_neg h1]
  by_cases h2 : a % 9223372036854775808 < infB
  · rw [if_pos h2]; simp [Ieee.Datum.order, Ieee.signed]
  · rw [if_neg h2, if_pos (by omega)]; simp [Ieee.Datum.order]
theorem and_exp (u : Nat) (hu : u < 2 ^ 64) : bits .and .u64 ((u : Int) / 4503599627370496) 2047 = ((u / 4503599627370496 % 2048 : Nat) : Int) := by
  have h := bits_and_u64_nat (u / 4503599627370496) 2047 (by omega) (by omega)
  have e : u / 4503599627370496 &&& 2047 = u / 4503599627370496 % 2048 := Nat.and_two_pow_sub_one_eq_mod _ 11
  rw [e] at h
  simpa using h
theorem and_frac (u : Nat) (hu : u < 2 ^ 64) : bits .and .u64 (u : Int) 4503599627370495 = ((u % 4503599627370496 : Nat) : Int) := by
  have h := bits_and_u64_nat u 4503599627370495 (by omega) (by omega)
  have e : u &&& 4503599627370495 = u % 4503599627370496 := Nat.and_two_pow_sub_one_eq_mod _ 52
  rw [e] at h
  simpa using h
theorem nan_bits {u : Nat} (hu : u < 2 ^ 64) : nan u = true ↔ u / 4503599627370496 % 2048 = 2047 ∧ u % 4503599627370496 ≠ 0 := by
  have e : infB < u % 9223372036854775808 ↔ u / 4503599627370496 % 2048 = 2047 ∧ u % 4503599627370496 ≠ 0 := by
    unfold infB; omega
  rw [← e]
  constructor
  · intro h
    by_cases h2 : infB < u % 9223372036854775808
    · exact h2
    · rw [nan_no (by omega)] at h; cases h
  · exact nan_of

theorem flt_check (u : Nat) : (V.mk 2 0 u ⟨#[]⟩ []).check = 0 := by
  simp [V.check, V.odd_mk, V.great_mk, V.size_mk, wrap64]
set_option maxHeartbeats 1000000 in
theorem wireNaN_no (u : Nat) (hu : u < 2 ^ 64) (hn : nan u = true) (hc : u ≠ 9221120237041090561) (w : World) : Calls Try.prog 6 #[.int .u64 u] w fun e w' => e = .returned (.bool true) ∧ Below w.heap.size w w' := by
  have HU := Lib.hid hu
  have hb := (nan_bits hu).1 hn
  have g1 : bits .and .u64 ((u : Int) / 4503599627370496) 2047 = 2047 := by rw [and_exp u hu, hb.1]; rfl
  have g2 : (bits .and .u64 (u : Int) 4503599627370495 != 0) = true := by rw [and_frac u hu]; simp; omega
  have g3 : ((u : Int) != 9221120237041090561) = true := by simp; omega
  have HR := Lib.hid (show vread (rd true 9 ([2] ++ beB u 8)) = (V.mk 0 0 0 ⟨#[]⟩ [], 0, 20) by
    rw [List.singleton_append, rd_cons]
    simp only [show ¬ (2 : Int) = 0 by omega, show ¬ (2 : Int) = 1 by omega, if_true, if_false]
    rw [if_neg (by rw [beB_length]; omega), show (beB u 8).take 8 = beB u 8 from List.take_of_length_le (by rw [beB_length]; omega), beN_beB, Nat.mod_eq_of_lt hu, if_neg (by rw [canonN_nan hn]; exact fun e => hc e.symm)]
    rfl)
  clear hb hn hc
  go_enter Try.func6, Try.ntmps6
  go_wp2_with fail
  refine (known3_c _).mono ?_
  rintro e w1 ⟨rfl, hb1⟩
  have HB1 := Lib.hid hb1
  clear hb1
  go_wp2_with fail
  have hba : Below w1.heap.size w1 (w1.alloc (.cells #[.int .u8 2] 5)) := (Below.refl _ _).alloc (Nat.le_refl _) _
  have HBa := Lib.hid hba
  clear hba
  have hP := putU1_c w1.heap.size (.slice (some ⟨w1.heap.size, 0, none⟩) 1 1) [2] u hu 8 (w1.alloc (.cells #[.int .u8 2] 5)) (.inr ⟨_, rfl, BIn.one (block_alloc_at _ rfl) (by omega), fun p hp => by obtain rfl := Option.some.inj hp; simp⟩) (by simp) (by simp)
  refine hP.mono ?_
  rintro e w2 ⟨sl2, rfl, hap2⟩
  have hn8 : nOf 8 = 8 := by decide
  rw [hn8] at hap2
  obtain ⟨a2, c2, rfl, hlc2, hc2, hbin2⟩ := hap2.bs.binB ((Byt.one (by omega)).append (beB_byt _ _)) (by simp [beB_length])
  rw [show ([2] ++ beB u 8 : List Int).length = 9 by simp [beB_length]] at hlc2 ⊢
  have HZ2 := Lib.hid hbin2
  have HB2 := Lib.hid (HB1.out.trans ((HBa.out.grown hap2.grew (by simp) (fun k hk => (obk_some.1 hk).2)).mono HB1.out.size))
  clear hP hap2 hbin2 HBa HB1
  go_wp2_with fail
  refine (Read2_n (N := 9) HR.out (by simp [beB_length]) ⟨by decide, hlc2⟩ hc2 HZ2.out).mono ?_
  rintro e w3 ⟨sa3, sc3, rfl, hv3, hb3⟩
  simp only [V.k_mk, V.i_mk, V.f_mk, V.s_mk, V.l_mk, List.length_nil]
  have HB3 := Lib.hid (HB2.out.trans (hb3.mono HB2.out.size))
  clear hv3 hb3 HZ2 HB2
  go_wp2_with fail
  go_ret
  exact ⟨rfl, HB3.out.alloc HB3.out.size _⟩
set_option maxHeartbeats 1000000 in
theorem wireNaN_one (u : Nat) (hu : u < 2 ^ 64) (hn : nan u = true) (hc : u = 9221120237041090561) (w : World) : Calls Try.prog 6 #[.int .u64 u] w fun e w' => e = .returned (.bool true) ∧ Below w.heap.size w w' := by
  have HU := Lib.hid hu
  have hb := (nan_bits hu).1 hn
  have g1 : bits .and .u64 ((u : Int) / 4503599627370496) 2047 = 2047 := by rw [and_exp u hu, hb.1]; rfl
  have g2 : (bits .and .u64 (u : Int) 4503599627370495 != 0) = true := by rw [and_frac u hu]; simp; omega
  have g3 : ((u : Int) != 9221120237041090561) = false := by simp; omega
  have hcn : canonN u = u := by rw [canonN_nan hn, hc]
  have g4 : (FloatKind.f64.format.order u u != some Ordering.eq) = true := hn
  clear hb hn hc
  have HR := Lib.hid (show vread (rd true 9 ([2] ++ beB u 8)) = (V.mk 2 0 u ⟨#[]⟩ [], 9, 0) by
    rw [List.singleton_append, rd_cons]
    simp only [show ¬ (2 : Int) = 0 by omega, show ¬ (2 : Int) = 1 by omega, if_true, if_false]
    rw [if_neg (by rw [beB_length]; omega), show (beB u 8).take 8 = beB u 8 from List.take_of_length_le (by rw [beB_length]; omega), beN_beB, Nat.mod_eq_of_lt hu, if_pos hcn]
    unfold vread
    simp only
    rw [if_pos (show (V.flt u).check = 0 from flt_check u)]
    rfl)
  have HPV := Lib.hid (show vput [] (V.mk 2 0 u ⟨#[]⟩ []) = ([2] ++ beB u 8, 0) by
    unfold vput
    rw [if_pos (flt_check u), V.bytes_mk]
    simp [hcn])
  clear hcn
  go_enter Try.func6, Try.ntmps6
  go_wp2_with fail
  refine (known3_c _).mono ?_
  rintro e w1 ⟨rfl, hb1⟩
  have HB1 := Lib.hid hb1
  clear hb1
  go_wp2_with fail
  have hba : Below w1.heap.size w1 (w1.alloc (.cells #[.int .u8 2] 5)) := (Below.refl _ _).alloc (Nat.le_refl _) _
  have HBa := Lib.hid hba
  clear hba
  have hP := putU1_c w1.heap.size (.slice (some ⟨w1.heap.size, 0, none⟩) 1 1) [2] u hu 8 (w1.alloc (.cells #[.int .u8 2] 5)) (.inr ⟨_, rfl, BIn.one (block_alloc_at _ rfl) (by omega), fun p hp => by obtain rfl := Option.some.inj hp; simp⟩) (by simp) (by simp)
  refine hP.mono ?_
  rintro e w2 ⟨sl2, rfl, hap2⟩
  have hn8 : nOf 8 = 8 := by decide
  rw [hn8] at hap2
  obtain ⟨a2, c2, rfl, hlc2, hc2, hbin2⟩ := hap2.bs.binB ((Byt.one (by omega)).append (beB_byt _ _)) (by simp [beB_length])
  rw [show ([2] ++ beB u 8 : List Int).length = 9 by simp [beB_length]] at hlc2 ⊢
  have HZ2 := Lib.hid hbin2
  have HB2 := Lib.hid (HB1.out.trans ((HBa.out.grown hap2.grew (by simp) (fun k hk => (obk_some.1 hk).2)).mono HB1.out.size))
  clear hP hap2 hbin2 HBa HB1
  go_wp2_with fail
  refine (Read2_n (N := 9) HR.out (by simp [beB_length]) ⟨by decide, hlc2⟩ hc2 HZ2.out).mono ?_
  rintro e w3 ⟨sa3, sc3, rfl, hv3, hb3⟩
  simp only [V.k_mk, V.i_mk, V.f_mk, V.s_mk, V.l_mk, List.length_nil] at hv3 ⊢
  have HV3 := Lib.hid hv3
  have HB3 := Lib.hid (HB2.out.trans (hb3.mono HB2.out.size))
  have HZ3 := Lib.hid (HZ2.out.below hb3)
  clear hv3 hb3 HZ2 HB2
  go_wp2_with fail
  have HAL := Lib.hid (fun o => ((Below.refl w3.heap.size w3).alloc (Nat.le_refl _) o : Below w3.heap.size w3 (w3.alloc o)))
  have hQ := Put2_c (V.mk 2 0 u ⟨#[]⟩ []) (w3.alloc (.cells #[.int .i64 2, .int .i64 0, .float .f64 u, .string ⟨#[]⟩, .slice sa3 0 sc3] 26)).heap.size none 0 [] _ (.slice sa3 0 sc3) (fun j hj => by cases hj) (fun _ => rfl) (by simp) (Nat.le_refl _) (by simp)
    ((HV3.out.below (HAL.out (.cells #[.int .i64 2, .int .i64 0, .float .f64 u, .string ⟨#[]⟩, .slice sa3 0 sc3] 26))).keep (fun _ _ _ => rfl) (fun b _ hlt => hlt))
  rw [HPV.out] at hQ
  refine hQ.mono ?_
  rintro e w4 ⟨sl4, rfl, hbs4, hb4, _⟩
  obtain ⟨a4, c4, rfl, hlc4, hc4, hbin4⟩ := hbs4.binB ((Byt.one (by omega)).append (beB_byt _ _)) (by simp [beB_length])
  rw [show ([2] ++ beB u 8 : List Int).length = 9 by simp [beB_length]]
  have hcv1 := run_convert_bin w4 a2 9 c2 ([2] ++ beB u 8) ((HZ3.out.below (HAL.out _)).below hb4) (by simp [beB_length])
  have hcv2 := run_convert_bin w4 a4 9 c4 ([2] ++ beB u 8) hbin4 (by simp [beB_length])
  obtain ⟨⟨_, _, v2, _, _⟩, _⟩ := cells_of_block5 (block_below hb4 (block_alloc_at _ rfl))
  have HB4 := Lib.hid (HB3.out.trans (((HAL.out _).trans (hb4.mono (by simp))).mono HB3.out.size))
  clear hQ hbs4 hb4 hbin4 hlc4 hc4 HZ3 HB3 HAL HV3
  generalize txtB ([2] ++ beB u 8) = tx at hcv1 hcv2
  go_wp2_with fail
  go_ret
  exact ⟨rfl, HB4.out⟩
set_option maxHeartbeats 1000000 in
theorem wireNaN_num1 (u : Nat) (hu : u < 2 ^ 64) (hn : nan u = false) (h1 : ¬ u / 4503599627370496 % 2048 = 2047) (w : World) : Calls Try.prog 6 #[.int .u64 u] w fun e w' => e = .returned (.bool true) ∧ Below w.heap.size w w' := by
  have HU := Lib.hid hu
  have g1 : (bits .and .u64 ((u : Int) / 4503599627370496) 2047 == 2047) = false := by rw [and_exp u hu]; simp; omega
  have hcn : canonN u = u := canonN_num hn
  have g4 : (FloatKind.f64.format.order u u != some Ordering.eq) = false := hn
  clear hn h1
  have HR := Lib.hid (show vread (rd true 9 ([2] ++ beB u 8)) = (V.mk 2 0 u ⟨#[]⟩ [], 9, 0) by
    rw [List.singleton_append, rd_cons]
    simp only [show ¬ (2 : Int) = 0 by omega, show ¬ (2 : Int) = 1 by omega, if_true, if_false]
    rw [if_neg (by rw [beB_length]; omega), show (beB u 8).take 8 = beB u 8 from List.take_of_length_le (by rw [beB_length]; omega), beN_beB, Nat.mod_eq_of_lt hu, if_pos hcn]
    unfold vread
    simp only
    rw [if_pos (show (V.flt u).check = 0 from flt_check u)]
    rfl)
  have HPV := Lib.hid (show vput [] (V.mk 2 0 u ⟨#[]⟩ []) = ([2] ++ beB u 8, 0) by
    unfold vput
    rw [if_pos (flt_check u), V.bytes_mk]
    simp [hcn])
  clear hcn
  go_enter Try.func6, Try.ntmps6
  go_wp2_with fail
  refine (known3_c _).mono ?_
  rintro e w1 ⟨rfl, hb1⟩
  have HB1 := Lib.hid hb1
  clear hb1
  go_wp2_with fail
  have hba : Below w1.heap.size w1 (w1.alloc (.cells #[.int .u8 2] 5)) := (Below.refl _ _).alloc (Nat.le_refl _) _
  have HBa := Lib.hid hba
  clear hba
  have hP := putU1_c w1.heap.size (.slice (some ⟨w1.heap.size, 0, none⟩) 1 1) [2] u hu 8 (w1.alloc (.cells #[.int .u8 2] 5)) (.inr ⟨_, rfl, BIn.one (block_alloc_at _ rfl) (by omega), fun p hp => by obtain rfl := Option.some.inj hp; simp⟩) (by simp) (by simp)
  refine hP.mono ?_
  rintro e w2 ⟨sl2, rfl, hap2⟩
  have hn8 : nOf 8 = 8 := by decide
  rw [hn8] at hap2
  obtain ⟨a2, c2, rfl, hlc2, hc2, hbin2⟩ := hap2.bs.binB ((Byt.one (by omega)).append (beB_byt _ _)) (by simp [beB_length])
  rw [show ([2] ++ beB u 8 : List Int).length = 9 by simp [beB_length]] at hlc2 ⊢
  have HZ2 := Lib.hid hbin2
  have HB2 := Lib.hid (HB1.out.trans ((HBa.out.grown hap2.grew (by simp) (fun k hk => (obk_some.1 hk).2)).mono HB1.out.size))
  clear hP hap2 hbin2 HBa HB1
  go_wp2_with fail
  refine (Read2_n (N := 9) HR.out (by simp [beB_length]) ⟨by decide, hlc2⟩ hc2 HZ2.out).mono ?_
  rintro e w3 ⟨sa3, sc3, rfl, hv3, hb3⟩
  simp only [V.k_mk, V.i_mk, V.f_mk, V.s_mk, V.l_mk, List.length_nil] at hv3 ⊢
  have HV3 := Lib.hid hv3
  have HB3 := Lib.hid (HB2.out.trans (hb3.mono HB2.out.size))
  have HZ3 := Lib.hid (HZ2.out.below hb3)
  clear hv3 hb3 HZ2 HB2
  go_wp2_with fail
  have HAL := Lib.hid (fun o => ((Below.refl w3.heap.size w3).alloc (Nat.le_refl _) o : Below w3.heap.size w3 (w3.alloc o)))
  have hQ := Put2_c (V.mk 2 0 u ⟨#[]⟩ []) (w3.alloc (.cells #[.int .i64 2, .int .i64 0, .float .f64 u, .string ⟨#[]⟩, .slice sa3 0 sc3] 26)).heap.size none 0 [] _ (.slice sa3 0 sc3) (fun j hj => by cases hj) (fun _ => rfl) (by simp) (Nat.le_refl _) (by simp)
    ((HV3.out.below (HAL.out (.cells #[.int .i64 2, .int .i64 0, .float .f64 u, .string ⟨#[]⟩, .slice sa3 0 sc3] 26))).keep (fun _ _ _ => rfl) (fun b _ hlt => hlt))
  rw [HPV.out] at hQ
  refine hQ.mono ?_
  rintro e w4 ⟨sl4, rfl, hbs4, hb4, _⟩
  obtain ⟨a4, c4, rfl, hlc4, hc4, hbin4⟩ := hbs4.binB ((Byt.one (by omega)).append (beB_byt _ _)) (by simp [beB_length])
  rw [show ([2] ++ beB u 8 : List Int).length = 9 by simp [beB_length]]
  have hcv1 := run_convert_bin w4 a2 9 c2 ([2] ++ beB u 8) ((HZ3.out.below (HAL.out _)).below hb4) (by simp [beB_length])
  have hcv2 := run_convert_bin w4 a4 9 c4 ([2] ++ beB u 8) hbin4 (by simp [beB_length])
  obtain ⟨⟨_, _, v2, _, _⟩, _⟩ := cells_of_block5 (block_below hb4 (block_alloc_at _ rfl))
  have HB4 := Lib.hid (HB3.out.trans (((HAL.out _).trans (hb4.mono (by simp))).mono HB3.out.size))
  clear hQ hbs4 hb4 hbin4 hlc4 hc4 HZ3 HB3 HAL HV3
  generalize txtB ([2] ++ beB u 8) = tx at hcv1 hcv2
  go_wp2_with fail
  go_ret
  exact ⟨rfl, HB4.out⟩
set_option maxHeartbeats 1000000 in
theorem wireNaN_num2 (u : Nat) (hu : u < 2 ^ 64) (hn : nan u = false) (h1 : u / 4503599627370496 % 2048 = 2047) (h2 : u % 4503599627370496 = 0) (w : World) : Calls Try.prog 6 #[.int .u64 u] w fun e w' => e = .returned (.bool true) ∧ Below w.heap.size w w' := by
  have HU := Lib.hid hu
  have g1 : bits .and .u64 ((u : Int) / 4503599627370496) 2047 = 2047 := by rw [and_exp u hu, h1]; rfl
  have g2 : (bits .and .u64 (u : Int) 4503599627370495 != 0) = false := by rw [and_frac u hu, h2]; rfl
  have hcn : canonN u = u := canonN_num hn
  have g4 : (FloatKind.f64.format.order u u != some Ordering.eq) = false := hn
  clear hn h1 h2
  have HR := Lib.hid (show vread (rd true 9 ([2] ++ beB u 8)) = (V.mk 2 0 u ⟨#[]⟩ [], 9, 0) by
    rw [List.singleton_append, rd_cons]
    simp only [show ¬ (2 : Int) = 0 by omega, show ¬ (2 : Int) = 1 by omega, if_true, if_false]
    rw [if_neg (by rw [beB_length]; omega), show (beB u 8).take 8 = beB u 8 from List.take_of_length_le (by rw [beB_length]; omega), beN_beB, Nat.mod_eq_of_lt hu, if_pos hcn]
    unfold vread
    simp only
    rw [if_pos (show (V.flt u).check = 0 from flt_check u)]
    rfl)
  have HPV := Lib.hid (show vput [] (V.mk 2 0 u ⟨#[]⟩ []) = ([2] ++ beB u 8, 0) by
    unfold vput
    rw [if_pos (flt_check u), V.bytes_mk]
    simp [hcn])
  clear hcn
  go_enter Try.func6, Try.ntmps6
  go_wp2_with fail
  refine (known3_c _).mono ?_
  rintro e w1 ⟨rfl, hb1⟩
  have HB1 := Lib.hid hb1
  clear hb1
  go_wp2_with fail
  have hba : Below w1.heap.size w1 (w1.alloc (.cells #[.int .u8 2] 5)) := (Below.refl _ _).alloc (Nat.le_refl _) _
  have HBa := Lib.hid hba
  clear hba
  have hP := putU1_c w1.heap.size (.slice (some ⟨w1.heap.size, 0, none⟩) 1 1) [2] u hu 8 (w1.alloc (.cells #[.int .u8 2] 5)) (.inr ⟨_, rfl, BIn.one (block_alloc_at _ rfl) (by omega), fun p hp => by obtain rfl := Option.some.inj hp; simp⟩) (by simp) (by simp)
  refine hP.mono ?_
  rintro e w2 ⟨sl2, rfl, hap2⟩
  have hn8 : nOf 8 = 8 := by decide
  rw [hn8] at hap2
  obtain ⟨a2, c2, rfl, hlc2, hc2, hbin2⟩ := hap2.bs.binB ((Byt.one (by omega)).append (beB_byt _ _)) (by simp [beB_length])
  rw [show ([2] ++ beB u 8 : List Int).length = 9 by simp [beB_length]] at hlc2 ⊢
  have HZ2 := Lib.hid hbin2
  have HB2 := Lib.hid (HB1.out.trans ((HBa.out.grown hap2.grew (by simp) (fun k hk => (obk_some.1 hk).2)).mono HB1.out.size))
  clear hP hap2 hbin2 HBa HB1
  go_wp2_with fail
  refine (Read2_n (N := 9) HR.out (by simp [beB_length]) ⟨by decide, hlc2⟩ hc2 HZ2.out).mono ?_
  rintro e w3 ⟨sa3, sc3, rfl, hv3, hb3⟩
  simp only [V.k_mk, V.i_mk, V.f_mk, V.s_mk, V.l_mk, List.length_nil] at hv3 ⊢
  have HV3 := Lib.hid hv3
  have HB3 := Lib.hid (HB2.out.trans (hb3.mono HB2.out.size))
  have HZ3 := Lib.hid (HZ2.out.below hb3)
  clear hv3 hb3 HZ2 HB2
  go_wp2_with fail
  have HAL := Lib.hid (fun o => ((Below.refl w3.heap.size w3).alloc (Nat.le_refl _) o : Below w3.heap.size w3 (w3.alloc o)))
  have hQ := Put2_c (V.mk 2 0 u ⟨#[]⟩ []) (w3.alloc (.cells #[.int .i64 2, .int .i64 0, .float .f64 u, .string ⟨#[]⟩, .slice sa3 0 sc3] 26)).heap.size none 0 [] _ (.slice sa3 0 sc3) (fun j hj => by cases hj) (fun _ => rfl) (by simp) (Nat.le_refl _) (by simp)
    ((HV3.out.below (HAL.out (.cells #[.int .i64 2, .int .i64 0, .float .f64 u, .string ⟨#[]⟩, .slice sa3 0 sc3] 26))).keep (fun _ _ _ => rfl) (fun b _ hlt => hlt))
  rw [HPV.out] at hQ
  refine hQ.mono ?_
  rintro e w4 ⟨sl4, rfl, hbs4, hb4, _⟩
  obtain ⟨a4, c4, rfl, hlc4, hc4, hbin4⟩ := hbs4.binB ((Byt.one (by omega)).append (beB_byt _ _)) (by simp [beB_length])
  rw [show ([2] ++ beB u 8 : List Int).length = 9 by simp [beB_length]]
  have hcv1 := run_convert_bin w4 a2 9 c2 ([2] ++ beB u 8) ((HZ3.out.below (HAL.out _)).below hb4) (by simp [beB_length])
  have hcv2 := run_convert_bin w4 a4 9 c4 ([2] ++ beB u 8) hbin4 (by simp [beB_length])
  obtain ⟨⟨_, _, v2, _, _⟩, _⟩ := cells_of_block5 (block_below hb4 (block_alloc_at _ rfl))
  have HB4 := Lib.hid (HB3.out.trans (((HAL.out _).trans (hb4.mono (by simp))).mono HB3.out.size))
  clear hQ hbs4 hb4 hbin4 hlc4 hc4 HZ3 HB3 HAL HV3
  generalize txtB ([2] ++ beB u 8) = tx at hcv1 hcv2
  go_wp2_with fail
  go_ret
  exact ⟨rfl, HB4.out⟩
theorem wireNaN_c (u : Nat) (hu : u < 2 ^ 64) (w : World) : Calls Try.prog 6 #[.int .u64 u] w fun e w' => e = .returned (.bool true) ∧ Below w.heap.size w w' := by
  cases hn : nan u with
  | true =>
    by_cases hc : u = 9221120237041090561
    · exact wireNaN_one u hu hn hc w
    · exact wireNaN_no u hu hn hc w
  | false =>
    by_cases h1 : u / 4503599627370496 % 2048 = 2047
    · refine wireNaN_num2 u hu hn h1 ?_ w
      by_cases h2 : u % 4503599627370496 = 0
      · exact h2
      · rw [(nan_bits hu).2 ⟨h1, h2⟩] at hn; cases hn
    · exact wireNaN_num1 u hu hn h1 w
end Go.Proofs.Ytoddajaepnfgnaa
