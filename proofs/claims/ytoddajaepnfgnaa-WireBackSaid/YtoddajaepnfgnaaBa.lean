/- WireBack: the walk. -/
import Derived.Test.YtoddajaepnfgnaaLb
import Derived.Test.YtoddajaepnfgnaaSm
import Derived.Test.YtoddajaepnfgnaaHh
namespace Go.Proofs.Ytoddajaepnfgnaa
open Go Go.RowKit
attribute [local go_sem ↓] run_store_float

theorem wireBack_light (a : Option Addr) (c : Nat) (zs : List Int) (k i : Int) (f : Nat) (s : ByteArray) (l : List V) (va : Option Addr) (vc : Nat) (a2 : Option Addr) (c2 : Nat) (ms : List Int) (w : World)
    (hl : zs.length ≤ c ∧ c ≤ 9223372036854775807) (hc : a = none → c = 0) (hz : BIn w a zs) (hp : ∀ p, a = some p → p.block < w.heap.size) (hl2 : ms.length ≤ c2 ∧ c2 ≤ 9223372036854775807) (hc2 : a2 = none → c2 = 0) (hz2 : BIn w a2 ms)
    (hv : VIn (fun _ => True) w (V.mk k i f s l) (.slice va l.length vc)) (h : (V.mk k i f s l).light = false) :
    Calls Try.prog 3 #[.slice a zs.length c, .agg #[.int .i64 k, .int .i64 i, .float .f64 f, .string s, .slice va l.length vc], .slice a2 ms.length c2] w fun e w' => e = .returned (.bool true) ∧ Below w.heap.size w w' := by
  have HZ := Lib.hid hz
  have HZ2 := Lib.hid hz2
  have HV := Lib.hid (show VIn (fun b => b < w.heap.size) w (V.mk k i f s l) (.slice va l.length vc) from hv.keep (fun _ _ _ => rfl) (fun b _ hlt => hlt))
  have HP := Lib.hid hp
  have HC := Lib.hid (And.intro hc hc2)
  have HAL := Lib.hid (one.start0 (w0 := w) (k := k) (i := i) (f := f) (s := s) (sl := .slice va l.length vc) (t := 26))
  clear hz hz2 hv hp hc hc2
  go_enter Try.func3, Try.ntmps3
  go_wp2_with fail
  refine (known3_c _).mono ?_
  rintro e w1 ⟨rfl, hb1⟩
  have H1 := Lib.hid (one.keep hb1 HAL.out)
  obtain ⟨⟨c0, c1, c2', c3, c4⟩, _, _⟩ := H1.out
  clear hb1
  go_wp2_with fail
  refine (light_c (V.mk k i f s l) w1 _ _ (HV.out.below H1.out.2.1)).mono ?_
  rintro e w2 ⟨rfl, hb2⟩
  have H2 := Lib.hid (one.keep hb2 H1.out)
  clear hb2 c0 c1 c2' c3 c4 H1 HAL
  rw [h]
  go_wp2_with fail
  go_ret
  exact ⟨rfl, H2.out.2.1⟩

theorem wireBack_long (a : Option Addr) (c : Nat) (zs : List Int) (k i : Int) (f : Nat) (s : ByteArray) (l : List V) (va : Option Addr) (vc : Nat) (a2 : Option Addr) (c2 : Nat) (ms : List Int) (w : World)
    (hl : zs.length ≤ c ∧ c ≤ 9223372036854775807) (hc : a = none → c = 0) (hz : BIn w a zs) (hp : ∀ p, a = some p → p.block < w.heap.size) (hl2 : ms.length ≤ c2 ∧ c2 ≤ 9223372036854775807) (hc2 : a2 = none → c2 = 0) (hz2 : BIn w a2 ms)
    (hv : VIn (fun _ => True) w (V.mk k i f s l) (.slice va l.length vc)) (h : (V.mk k i f s l).light = true) (h2 : (100 : Int) < zs.length) :
    Calls Try.prog 3 #[.slice a zs.length c, .agg #[.int .i64 k, .int .i64 i, .float .f64 f, .string s, .slice va l.length vc], .slice a2 ms.length c2] w fun e w' => e = .returned (.bool true) ∧ Below w.heap.size w w' := by
  have HZ := Lib.hid hz
  have HZ2 := Lib.hid hz2
  have HV := Lib.hid (show VIn (fun b => b < w.heap.size) w (V.mk k i f s l) (.slice va l.length vc) from hv.keep (fun _ _ _ => rfl) (fun b _ hlt => hlt))
  have HP := Lib.hid hp
  have HC := Lib.hid (And.intro hc hc2)
  have HAL := Lib.hid (one.start0 (w0 := w) (k := k) (i := i) (f := f) (s := s) (sl := .slice va l.length vc) (t := 26))
  clear hz hz2 hv hp hc hc2
  go_enter Try.func3, Try.ntmps3
  go_wp2_with fail
  refine (known3_c _).mono ?_
  rintro e w1 ⟨rfl, hb1⟩
  have H1 := Lib.hid (one.keep hb1 HAL.out)
  obtain ⟨⟨c0, c1, c2', c3, c4⟩, _, _⟩ := H1.out
  clear hb1
  go_wp2_with fail
  refine (light_c (V.mk k i f s l) w1 _ _ (HV.out.below H1.out.2.1)).mono ?_
  rintro e w2 ⟨rfl, hb2⟩
  have H2 := Lib.hid (one.keep hb2 H1.out)
  clear hb2 c0 c1 c2' c3 c4 H1 HAL
  rw [h]
  go_wp2_with fail
  go_ret
  exact ⟨rfl, H2.out.2.1⟩

theorem wireBack_long2 (a : Option Addr) (c : Nat) (zs : List Int) (k i : Int) (f : Nat) (s : ByteArray) (l : List V) (va : Option Addr) (vc : Nat) (a2 : Option Addr) (c2 : Nat) (ms : List Int) (w : World)
    (hl : zs.length ≤ c ∧ c ≤ 9223372036854775807) (hc : a = none → c = 0) (hz : BIn w a zs) (hp : ∀ p, a = some p → p.block < w.heap.size) (hl2 : ms.length ≤ c2 ∧ c2 ≤ 9223372036854775807) (hc2 : a2 = none → c2 = 0) (hz2 : BIn w a2 ms)
    (hv : VIn (fun _ => True) w (V.mk k i f s l) (.slice va l.length vc)) (h : (V.mk k i f s l).light = true) (h2 : (zs.length : Int) ≤ 100) (h3 : (100 : Int) < ms.length) :
    Calls Try.prog 3 #[.slice a zs.length c, .agg #[.int .i64 k, .int .i64 i, .float .f64 f, .string s, .slice va l.length vc], .slice a2 ms.length c2] w fun e w' => e = .returned (.bool true) ∧ Below w.heap.size w w' := by
  have HZ := Lib.hid hz
  have HZ2 := Lib.hid hz2
  have HV := Lib.hid (show VIn (fun b => b < w.heap.size) w (V.mk k i f s l) (.slice va l.length vc) from hv.keep (fun _ _ _ => rfl) (fun b _ hlt => hlt))
  have HP := Lib.hid hp
  have HC := Lib.hid (And.intro hc hc2)
  have HAL := Lib.hid (one.start0 (w0 := w) (k := k) (i := i) (f := f) (s := s) (sl := .slice va l.length vc) (t := 26))
  clear hz hz2 hv hp hc hc2
  go_enter Try.func3, Try.ntmps3
  go_wp2_with fail
  refine (known3_c _).mono ?_
  rintro e w1 ⟨rfl, hb1⟩
  have H1 := Lib.hid (one.keep hb1 HAL.out)
  obtain ⟨⟨c0, c1, c2', c3, c4⟩, _, _⟩ := H1.out
  clear hb1
  go_wp2_with fail
  refine (light_c (V.mk k i f s l) w1 _ _ (HV.out.below H1.out.2.1)).mono ?_
  rintro e w2 ⟨rfl, hb2⟩
  have H2 := Lib.hid (one.keep hb2 H1.out)
  clear hb2 c0 c1 c2' c3 c4 H1 HAL
  rw [h]
  go_wp2_with fail
  go_ret
  exact ⟨rfl, H2.out.2.1⟩

set_option maxHeartbeats 4000000 in
theorem wireBack_err (a : Option Addr) (c : Nat) (zs : List Int) (k i : Int) (f : Nat) (s : ByteArray) (l : List V) (va : Option Addr) (vc : Nat) (a2 : Option Addr) (c2 : Nat) (ms : List Int) (w : World)
    (hl : zs.length ≤ c ∧ c ≤ 9223372036854775807) (hc : a = none → c = 0) (hz : BIn w a zs) (hp : ∀ p, a = some p → p.block < w.heap.size) (hl2 : ms.length ≤ c2 ∧ c2 ≤ 9223372036854775807) (hc2 : a2 = none → c2 = 0) (hz2 : BIn w a2 ms)
    (hv : VIn (fun _ => True) w (V.mk k i f s l) (.slice va l.length vc)) (h : (V.mk k i f s l).light = true) (h2 : (zs.length : Int) ≤ 100) (h3 : (ms.length : Int) ≤ 100) (hch : ¬ (V.mk k i f s l).check = 0) :
    Calls Try.prog 3 #[.slice a zs.length c, .agg #[.int .i64 k, .int .i64 i, .float .f64 f, .string s, .slice va l.length vc], .slice a2 ms.length c2] w fun e w' => e = .returned (.bool true) ∧ Below w.heap.size w w' := by
  have HVP := Lib.hid (show vput zs (V.mk k i f s l) = ([], (V.mk k i f s l).check) by unfold vput; rw [if_neg hch])
  generalize (V.mk k i f s l).check = E at HVP hch
  have hE0 : (E != 0) = true := by simpa using hch
  have hEE : (E != E) = false := by simp
  clear hch
  have HZ := Lib.hid hz
  have HZ2 := Lib.hid hz2
  have HV := Lib.hid (show VIn (fun b => b < w.heap.size) w (V.mk k i f s l) (.slice va l.length vc) from hv.keep (fun _ _ _ => rfl) (fun b _ hlt => hlt))
  have HP := Lib.hid hp
  have HC := Lib.hid (And.intro hc hc2)
  have HAL := Lib.hid (one.start0 (w0 := w) (k := k) (i := i) (f := f) (s := s) (sl := .slice va l.length vc) (t := 26))
  clear hz hz2 hv hp hc hc2
  go_enter Try.func3, Try.ntmps3
  go_wp2_with fail
  refine (known3_c _).mono ?_
  rintro e w1 ⟨rfl, hb1⟩
  have H1 := Lib.hid (one.keep hb1 HAL.out)
  obtain ⟨⟨c0, c1, c2', c3, c4⟩, _, _⟩ := H1.out
  clear hb1
  go_wp2_with fail
  refine (light_c (V.mk k i f s l) w1 _ _ (HV.out.below H1.out.2.1)).mono ?_
  rintro e w2 ⟨rfl, hb2⟩
  have H2 := Lib.hid (one.keep hb2 H1.out)
  clear hb2 c0 c1 c2' c3 c4 H1 HAL
  rw [h]
  obtain ⟨⟨c0, c1, c2', c3, c4⟩, _, _⟩ := H2.out
  go_wp2_with fail
  have hP2 := Put2_c (V.mk k i f s l) w.heap.size a c zs w2 (.slice va l.length vc) (HZ.out.below H2.out.2.1) HC.out.1 hl.1 H2.out.2.1.size (by omega) (HV.out.below H2.out.2.1)
  rw [HVP.out] at hP2
  refine hP2.mono ?_
  rintro e w3 ⟨sl3, rfl, hbs3, hb3, hat3⟩
  have H3 := Lib.hid (one.keep hb3 H2.out)
  have HF3 := Lib.hid (And.intro hbs3 hat3)
  clear hbs3 hb3 hat3 c0 c1 c2' c3 c4 H2 hP2
  obtain ⟨⟨c0, c1, c2', c3, c4⟩, _, _⟩ := H3.out
  have hsl := fun w => sub_full a zs.length c hl.1 w
  go_wp2_with fail
  refine wp_region_held_drew (S := fun w' => one w w' k i f s (.slice va l.length vc)) (by kernel_rfl) (one.keep (Below.refl _ _).drew H3.out) (fun hT => ?_)
  refine H_take 0 hT rfl (by kernel_rfl) (by kernel_rfl) (by kernel_rfl) (fun _ _ _ h => h) (by rfl) (by (intro w' hw'; (try dsimp only at hw'); go_simp; try with_reducible rfl)) ?_
  try simp only [Act.put, List.setIfInBounds_toArray, List.set_cons_zero, List.set_cons_succ]
  refine H_take 1 hT rfl (by kernel_rfl) (by kernel_rfl) (by kernel_rfl) (fun _ _ _ h => h) (by rfl) (by (intro w' hw'; (try dsimp only at hw'); go_simp; try with_reducible rfl)) ?_
  try simp only [Act.put, List.setIfInBounds_toArray, List.set_cons_zero, List.set_cons_succ]
  refine H_take 2 hT rfl (by kernel_rfl) (by kernel_rfl) (by kernel_rfl) (fun _ _ _ h => h) (by rfl) (by (intro w' hw'; (try dsimp only at hw'); go_simp; try with_reducible rfl)) ?_
  try simp only [Act.put, List.setIfInBounds_toArray, List.set_cons_zero, List.set_cons_succ]
  refine H_take 3 hT rfl (by kernel_rfl) (by kernel_rfl) (by kernel_rfl) (fun _ _ _ h => h) (by rfl) (by (intro w' hw'; (try dsimp only at hw'); go_simp; try with_reducible rfl)) ?_
  try simp only [Act.put, List.setIfInBounds_toArray, List.set_cons_zero, List.set_cons_succ]
  refine H_take 4 hT rfl (by kernel_rfl) (by kernel_rfl) (by kernel_rfl) (fun _ _ _ h => h) (by rfl) (by (intro w' hw'; (try dsimp only at hw'); go_simp; try with_reducible rfl)) ?_
  try simp only [Act.put, List.setIfInBounds_toArray, List.set_cons_zero, List.set_cons_succ]
  refine H_take 5 hT rfl (by kernel_rfl) (by kernel_rfl) (by kernel_rfl) (fun _ _ _ h => h) (by rfl) (by (intro w' hw'; (try dsimp only at hw'); go_simp; try with_reducible rfl)) ?_
  try simp only [Act.put, List.setIfInBounds_toArray, List.set_cons_zero, List.set_cons_succ]
  refine H_take 6 hT rfl (by kernel_rfl) (by kernel_rfl) (by kernel_rfl) (fun _ _ _ h => h) (by rfl) (by (intro w' hw'; (try dsimp only at hw'); go_simp; try with_reducible rfl)) ?_
  try simp only [Act.put, List.setIfInBounds_toArray, List.set_cons_zero, List.set_cons_succ]
  refine H_one 7 rfl (by kernel_rfl) (fun K hK => ?_)
  rw [if_pos (by rfl)]
  go_simp
  have HPB := Lib.hid (show Bs w3.drew w.heap.size (.slice a zs.length zs.length) zs from .inr ⟨a, rfl, HZ.out.below hT.2.1, fun p hp => Nat.lt_of_lt_of_le (HP.out p hp) hT.2.1.size⟩)
  have hP1 := Put1_c (V.mk k i f s l) w.heap.size (.slice a zs.length zs.length) zs w3.drew (.slice va l.length vc) HPB.out hT.2.1.size (by omega) (HV.out.below hT.2.1)
  rw [HVP.out] at hP1
  refine hP1.mono ?_
  rintro e w4 ⟨sl4, rfl, hap4⟩
  have hob : obk w.heap.size (.slice a zs.length zs.length) = none := by
    cases ho : obk w.heap.size (.slice a zs.length zs.length) with
    | none => rfl
    | some q =>
      obtain ⟨e1, e2⟩ := obk_some.1 ho
      cases a with
      | none => cases e1
      | some p => have := HP.out p rfl; have e3 : p.block = q := Option.some.inj e1; omega
  have hb4 : Below w3.drew.heap.size w3.drew w4 := by
    have hg := hap4.grew
    rw [hob] at hg
    exact ⟨hg.os, hg.tape, hg.output, hg.size, fun q hq => hg.block q hq (by simp)⟩
  have HB4 := Lib.hid hb4
  have HS4 := Lib.hid hap4.bs
  refine hK _ _ (one.keep hb4 hT) (fun hT4 => ?_)
  clear hK hT hap4 hob hb4 hP1
  try simp only [Act.put, List.setIfInBounds_toArray, List.set_cons_zero, List.set_cons_succ]
  refine H_take 8 hT4 rfl (by kernel_rfl) (by kernel_rfl) (by kernel_rfl) (fun _ _ _ h => h) (by rfl) (by (intro w' hw'; (try dsimp only at hw'); go_simp; try with_reducible rfl)) ?_
  try simp only [Act.put, List.setIfInBounds_toArray, List.set_cons_zero, List.set_cons_succ]
  refine H_take 9 hT4 rfl (by kernel_rfl) (by kernel_rfl) (by kernel_rfl) (fun _ _ _ h => h) (by rfl) (by (intro w' hw'; (try dsimp only at hw'); go_simp; try with_reducible rfl)) ?_
  try simp only [Act.put, List.setIfInBounds_toArray, List.set_cons_zero, List.set_cons_succ]
  refine H_take 10 hT4 rfl (by kernel_rfl) (by kernel_rfl) (by kernel_rfl) (fun _ _ _ h => h) (by rfl) (by (intro w' hw'; (try dsimp only at hw'); go_simp; try with_reducible rfl)) ?_
  try simp only [Act.put, List.setIfInBounds_toArray, List.set_cons_zero, List.set_cons_succ]
  refine H_take 11 hT4 rfl (by kernel_rfl) (by kernel_rfl) (by kernel_rfl) (fun _ _ _ h => h) (by rfl) (by (intro w' hw'; (try dsimp only at hw'); go_simp; try with_reducible rfl)) ?_
  try simp only [Act.put, List.setIfInBounds_toArray, List.set_cons_zero, List.set_cons_succ]
  refine H_take 12 hT4 rfl (by kernel_rfl) (by kernel_rfl) (by kernel_rfl) (fun _ _ _ h => h) (by rfl) (by (intro w' hw'; (try dsimp only at hw'); go_simp; try with_reducible rfl)) ?_
  try simp only [Act.put, List.setIfInBounds_toArray, List.set_cons_zero, List.set_cons_succ]
  refine wpAnyH_done (by kernel_rfl) ?_ _
  have H4 := Lib.hid hT4
  clear hT4 c0 c1 c2' c3 c4 hsl
  obtain ⟨a3, c3, rfl, _, _, hbin3⟩ := (HF3.out.1.below (show Below w3.heap.size w3 w4 from ((Below.refl _ w3).drew).trans HB4.out)).binB (fun z hz => by cases hz) (by simp)
  obtain ⟨a4, c4, rfl, _, _, hbin4⟩ := HS4.out.binB (fun z hz => by cases hz) (by simp)
  have hcv1 := run_convert_bin w4 a3 0 c3 [] hbin3 rfl
  have hcv2 := run_convert_bin w4 a4 0 c4 [] hbin4 rfl
  simp only [List.length_nil]
  clear hbin3 hbin4
  generalize txtB [] = tx at hcv1 hcv2
  go_wp2_with fail
  go_ret
  exact ⟨rfl, H4.out.2.1⟩

set_option maxHeartbeats 4000000 in
theorem wireBack_ok (a : Option Addr) (c : Nat) (zs : List Int) (k i : Int) (f : Nat) (s : ByteArray) (l : List V) (va : Option Addr) (vc : Nat) (a2 : Option Addr) (c2 : Nat) (ms : List Int) (w : World)
    (hl : zs.length ≤ c ∧ c ≤ 9223372036854775807) (hc : a = none → c = 0) (hz : BIn w a zs) (hp : ∀ p, a = some p → p.block < w.heap.size) (hl2 : ms.length ≤ c2 ∧ c2 ≤ 9223372036854775807) (hc2 : a2 = none → c2 = 0) (hz2 : BIn w a2 ms)
    (hv : VIn (fun _ => True) w (V.mk k i f s l) (.slice va l.length vc)) (h : (V.mk k i f s l).light = true) (h2 : (zs.length : Int) ≤ 100) (h3 : (ms.length : Int) ≤ 100) (hch : (V.mk k i f s l).check = 0) (bm om : Nat) (ha2 : a2 = some ⟨bm, om, none⟩) (hm : 0 < ms.length) :
    Calls Try.prog 3 #[.slice a zs.length c, .agg #[.int .i64 k, .int .i64 i, .float .f64 f, .string s, .slice va l.length vc], .slice a2 ms.length c2] w fun e w' => e = .returned (.bool true) ∧ Below w.heap.size w w' := by
  subst ha2
  have HVP := Lib.hid (show vput zs (V.mk k i f s l) = (zs ++ (V.mk k i f s l).bytes, 0) by unfold vput; rw [if_pos hch])
  have HOK := Lib.hid hv.ok
  have HBY := Lib.hid (V.bytes_byt _ (V.check_zero hch).1)
  have HSZ := Lib.hid (And.intro (V.bytes_length _ (V.check_zero hch).1) (V.check_zero hch).2.2)
  have HRD := Lib.hid (vread_put hv.ok hch ms)
  have hbl : 0 < (V.mk k i f s l).bytes.length := by rw [V.bytes_mk]; simp
  have hbl2 : (V.mk k i f s l).bytes.length ≤ 4096 := by have := HSZ.out; omega
  clear hch
  have HZ := Lib.hid hz
  have HZ2 := Lib.hid hz2
  have HV := Lib.hid (show VIn (fun b => b < w.heap.size) w (V.mk k i f s l) (.slice va l.length vc) from hv.keep (fun _ _ _ => rfl) (fun b _ hlt => hlt))
  have HP := Lib.hid hp
  have HC := Lib.hid (And.intro hc hc2)
  have HAL := Lib.hid (one.start0 (w0 := w) (k := k) (i := i) (f := f) (s := s) (sl := .slice va l.length vc) (t := 26))
  clear hz hz2 hv hp hc hc2
  go_enter Try.func3, Try.ntmps3
  go_wp2_with fail
  refine (known3_c _).mono ?_
  rintro e w1 ⟨rfl, hb1⟩
  have H1 := Lib.hid (one.keep hb1 HAL.out)
  obtain ⟨⟨c0, c1, c2', c3, c4⟩, _, _⟩ := H1.out
  clear hb1
  go_wp2_with fail
  refine (light_c (V.mk k i f s l) w1 _ _ (HV.out.below H1.out.2.1)).mono ?_
  rintro e w2 ⟨rfl, hb2⟩
  have H2 := Lib.hid (one.keep hb2 H1.out)
  clear hb2 c0 c1 c2' c3 c4 H1 HAL
  rw [h]
  obtain ⟨⟨c0, c1, c2', c3, c4⟩, _, _⟩ := H2.out
  go_wp2_with fail
  have hP2 := Put2_c (V.mk k i f s l) w.heap.size a c zs w2 (.slice va l.length vc) (HZ.out.below H2.out.2.1) HC.out.1 hl.1 H2.out.2.1.size (by omega) (HV.out.below H2.out.2.1)
  rw [HVP.out] at hP2
  refine hP2.mono ?_
  rintro e w3 ⟨sl3, rfl, hbs3, hb3, hat3⟩
  have H3 := Lib.hid (one.keep hb3 H2.out)
  have HF3 := Lib.hid (And.intro hbs3 hat3)
  clear hbs3 hb3 hat3 c0 c1 c2' c3 c4 H2 hP2
  obtain ⟨⟨c0, c1, c2', c3, c4⟩, _, _⟩ := H3.out
  have hsl := fun w => sub_full a zs.length c hl.1 w
  go_wp2_with fail
  refine wp_region_held_drew (S := fun w' => one w w' k i f s (.slice va l.length vc)) (by kernel_rfl) (one.keep (Below.refl _ _).drew H3.out) (fun hT => ?_)
  refine H_take 0 hT rfl (by kernel_rfl) (by kernel_rfl) (by kernel_rfl) (fun _ _ _ h => h) (by rfl) (by (intro w' hw'; (try dsimp only at hw'); go_simp; try with_reducible rfl)) ?_
  try simp only [Act.put, List.setIfInBounds_toArray, List.set_cons_zero, List.set_cons_succ]
  refine H_take 1 hT rfl (by kernel_rfl) (by kernel_rfl) (by kernel_rfl) (fun _ _ _ h => h) (by rfl) (by (intro w' hw'; (try dsimp only at hw'); go_simp; try with_reducible rfl)) ?_
  try simp only [Act.put, List.setIfInBounds_toArray, List.set_cons_zero, List.set_cons_succ]
  refine H_take 2 hT rfl (by kernel_rfl) (by kernel_rfl) (by kernel_rfl) (fun _ _ _ h => h) (by rfl) (by (intro w' hw'; (try dsimp only at hw'); go_simp; try with_reducible rfl)) ?_
  try simp only [Act.put, List.setIfInBounds_toArray, List.set_cons_zero, List.set_cons_succ]
  refine H_take 3 hT rfl (by kernel_rfl) (by kernel_rfl) (by kernel_rfl) (fun _ _ _ h => h) (by rfl) (by (intro w' hw'; (try dsimp only at hw'); go_simp; try with_reducible rfl)) ?_
  try simp only [Act.put, List.setIfInBounds_toArray, List.set_cons_zero, List.set_cons_succ]
  refine H_take 4 hT rfl (by kernel_rfl) (by kernel_rfl) (by kernel_rfl) (fun _ _ _ h => h) (by rfl) (by (intro w' hw'; (try dsimp only at hw'); go_simp; try with_reducible rfl)) ?_
  try simp only [Act.put, List.setIfInBounds_toArray, List.set_cons_zero, List.set_cons_succ]
  refine H_take 5 hT rfl (by kernel_rfl) (by kernel_rfl) (by kernel_rfl) (fun _ _ _ h => h) (by rfl) (by (intro w' hw'; (try dsimp only at hw'); go_simp; try with_reducible rfl)) ?_
  try simp only [Act.put, List.setIfInBounds_toArray, List.set_cons_zero, List.set_cons_succ]
  refine H_take 6 hT rfl (by kernel_rfl) (by kernel_rfl) (by kernel_rfl) (fun _ _ _ h => h) (by rfl) (by (intro w' hw'; (try dsimp only at hw'); go_simp; try with_reducible rfl)) ?_
  try simp only [Act.put, List.setIfInBounds_toArray, List.set_cons_zero, List.set_cons_succ]
  refine H_one 7 rfl (by kernel_rfl) (fun K hK => ?_)
  rw [if_pos (by rfl)]
  go_simp
  have HPB := Lib.hid (show Bs w3.drew w.heap.size (.slice a zs.length zs.length) zs from .inr ⟨a, rfl, HZ.out.below hT.2.1, fun p hp => Nat.lt_of_lt_of_le (HP.out p hp) hT.2.1.size⟩)
  have hP1 := Put1_c (V.mk k i f s l) w.heap.size (.slice a zs.length zs.length) zs w3.drew (.slice va l.length vc) HPB.out hT.2.1.size (by omega) (HV.out.below hT.2.1)
  rw [HVP.out] at hP1
  refine hP1.mono ?_
  rintro e w4 ⟨sl4, rfl, hap4⟩
  have hob : obk w.heap.size (.slice a zs.length zs.length) = none := by
    cases ho : obk w.heap.size (.slice a zs.length zs.length) with
    | none => rfl
    | some q =>
      obtain ⟨e1, e2⟩ := obk_some.1 ho
      cases a with
      | none => cases e1
      | some p => have := HP.out p rfl; have e3 : p.block = q := Option.some.inj e1; omega
  have hb4 : Below w3.drew.heap.size w3.drew w4 := by
    have hg := hap4.grew
    rw [hob] at hg
    exact ⟨hg.os, hg.tape, hg.output, hg.size, fun q hq => hg.block q hq (by simp)⟩
  have HB4 := Lib.hid hb4
  have HS4 := Lib.hid hap4.bs
  refine hK _ _ (one.keep hb4 hT) (fun hT4 => ?_)
  clear hK hT hap4 hob hb4 hP1
  try simp only [Act.put, List.setIfInBounds_toArray, List.set_cons_zero, List.set_cons_succ]
  refine H_take 8 hT4 rfl (by kernel_rfl) (by kernel_rfl) (by kernel_rfl) (fun _ _ _ h => h) (by rfl) (by (intro w' hw'; (try dsimp only at hw'); go_simp; try with_reducible rfl)) ?_
  try simp only [Act.put, List.setIfInBounds_toArray, List.set_cons_zero, List.set_cons_succ]
  refine H_take 9 hT4 rfl (by kernel_rfl) (by kernel_rfl) (by kernel_rfl) (fun _ _ _ h => h) (by rfl) (by (intro w' hw'; (try dsimp only at hw'); go_simp; try with_reducible rfl)) ?_
  try simp only [Act.put, List.setIfInBounds_toArray, List.set_cons_zero, List.set_cons_succ]
  refine H_take 10 hT4 rfl (by kernel_rfl) (by kernel_rfl) (by kernel_rfl) (fun _ _ _ h => h) (by rfl) (by (intro w' hw'; (try dsimp only at hw'); go_simp; try with_reducible rfl)) ?_
  try simp only [Act.put, List.setIfInBounds_toArray, List.set_cons_zero, List.set_cons_succ]
  refine H_take 11 hT4 rfl (by kernel_rfl) (by kernel_rfl) (by kernel_rfl) (fun _ _ _ h => h) (by rfl) (by (intro w' hw'; (try dsimp only at hw'); go_simp; try with_reducible rfl)) ?_
  try simp only [Act.put, List.setIfInBounds_toArray, List.set_cons_zero, List.set_cons_succ]
  refine H_take 12 hT4 rfl (by kernel_rfl) (by kernel_rfl) (by kernel_rfl) (fun _ _ _ h => h) (by rfl) (by (intro w' hw'; (try dsimp only at hw'); go_simp; try with_reducible rfl)) ?_
  try simp only [Act.put, List.setIfInBounds_toArray, List.set_cons_zero, List.set_cons_succ]
  refine wpAnyH_done (by kernel_rfl) ?_ _
  have H4 := Lib.hid hT4
  clear hT4 c0 c1 c2' c3 c4 hsl
  obtain ⟨a3, c3, rfl, hl3, hc3, hbin3⟩ := (HF3.out.1.below (show Below w3.heap.size w3 w4 from ((Below.refl _ w3).drew).trans HB4.out)).binB (HZ.out.byt.append HBY.out) (by simp; omega)
  obtain ⟨a4, c4, rfl, _, _, hbin4⟩ := HS4.out.binB (HZ.out.byt.append HBY.out) (by simp; omega)
  have hcv1 := run_convert_bin w4 a3 (zs ++ (V.mk k i f s l).bytes).length c3 _ hbin3 rfl
  have hcv2 := run_convert_bin w4 a4 (zs ++ (V.mk k i f s l).bytes).length c4 _ hbin4 rfl
  have HZ3 := Lib.hid hbin3
  obtain ⟨a5, c5, ys, hys, hl5, hc5, hbin5, hsl5⟩ := sub_at a3 c3 (zs ++ (V.mk k i f s l).bytes) zs.length (by simp) hl3 hc3
  have hyb : ys = (V.mk k i f s l).bytes := by rw [hys]; simp
  have HZ5 := Lib.hid (hbin5 _ hbin3)
  subst hyb
  obtain ⟨b5, o5, rfl, _⟩ := HZ5.out 0 hbl
  have hln : (zs ++ (V.mk k i f s l).bytes).length = zs.length + (V.mk k i f s l).bytes.length := List.length_append
  generalize hby : (V.mk k i f s l).bytes = bs at *
  generalize hN : (zs ++ bs).length = N at *
  have HN := Lib.hid hN
  have HLN := Lib.hid hln
  have HBYE := Lib.hid hby
  have hzN : (zs.length : Int) ≤ N := by omega
  clear hbin3 hbin4 hbin5 hys hN hby hln
  generalize txtB (zs ++ bs) = tx at hcv1 hcv2
  have HBS4 := Lib.hid (show w.heap.size ≤ w4.heap.size from H4.out.2.1.size)
  have hbm := HZ2.out
  go_wp2_with (first | (at_builtin; (refine wpList_append_bsn _ rfl (.const (.slice none 0 0)) (.tmp 62) rfl w.heap.size bs rfl ⟨b5, o5, none⟩ bs.length c5 rfl rfl (HZ5.out.cells ⟨b5, o5, none⟩ rfl) hbl (by omega) HBS4.out ?_; intro g cap w5 hap5)) | (at_builtin; (refine wpList_append_bs _ rfl (.tmp 63) (.tmp 64) rfl w.heap.size (.slice (some ⟨g, 0, none⟩) bs.length cap) bs ms rfl hap5.bs ⟨bm, om, none⟩ ms.length c2 rfl rfl ((BIn.below hbm (H4.out.2.1.trans (apn_below HBS4.out hap5))).cells ⟨bm, om, none⟩ rfl) hm (by omega) (Nat.le_trans HBS4.out hap5.grew.size) ?_; intro g2 cap2 w6 hap6)))
  have hbT := apn_below (Nat.le_refl _) (hap5.trans hap6)
  have hTT := (hap5.trans hap6).bs
  have hbyt : Byt (bs ++ ms) := (HBY.out : Byt _).append HZ2.out.byt
  obtain ⟨hn6, hl6, hc6, hbin6⟩ := hTT.at_ (by simp; omega) hbyt
  have H6 := Lib.hid (one.keep hbT H4.out)
  have HZ6 := Lib.hid hbin6
  have HRR := HRD.out
  obtain ⟨ck, ci, cf, cs, cl, hcl⟩ := V.parts (V.mk k i f s l).clean
  rw [hcl] at HRR
  have HCL := Lib.hid hcl
  clear hbT hTT hbyt hbin6 hbm hcv1 hcv2 hsl5 H4 HB4 HS4 HF3 H3 hcl hap5 hap6
  refine (Read2_n (N := bs.length + ms.length) HRR hn6.symm ⟨by omega, hl6⟩ hc6 HZ6.out).mono ?_
  rintro e w7 ⟨sa7, sc7, rfl, hv7, hb7⟩
  simp only [V.k_mk, V.i_mk, V.f_mk, V.s_mk, V.l_mk] at hv7 ⊢
  have H7 := Lib.hid (one.keep hb7 H6.out)
  have HV7 := Lib.hid hv7
  have HNN := Lib.hid hn6
  clear hb7 hv7 H6 hn6 hl6 hc6 HRR
  go_wp2_with fail
  have HD := Lib.hid (show duo (w7.alloc (.cells #[.int .i64 ck, .int .i64 ci, .float .f64 cf, .string cs, .slice sa7 cl.length sc7] 26)) (w7.alloc (.cells #[.int .i64 ck, .int .i64 ci, .float .f64 cf, .string cs, .slice sa7 cl.length sc7] 26)) w.heap.size k i f s (.slice va l.length vc) w7.heap.size ck ci cf cs (.slice sa7 cl.length sc7) from ⟨H7.out.1.keep ((Below.refl _ _).alloc (Nat.le_refl _) _), at5.new, Below.refl _ _⟩)
  have HVA := Lib.hid (show VIn (fun b => b < w.heap.size) (w7.alloc (.cells #[.int .i64 ck, .int .i64 ci, .float .f64 cf, .string cs, .slice sa7 cl.length sc7] 26)) (V.mk k i f s l) (.slice va l.length vc) from (HV.out.below H7.out.2.1).below ((Below.refl _ _).alloc (Nat.le_refl _) _))
  have HCA := Lib.hid (HV7.out.below ((Below.refl w7.heap.size w7).alloc (Nat.le_refl _) (.cells #[.int .i64 ck, .int .i64 ci, .float .f64 cf, .string cs, .slice sa7 cl.length sc7] 26)))
  have HBF := Lib.hid (show Below w.heap.size w (w7.alloc (.cells #[.int .i64 ck, .int .i64 ci, .float .f64 cf, .string cs, .slice sa7 cl.length sc7] 26)) from H7.out.2.1.alloc H7.out.2.1.size _)
  have hw1 : IntKind.i64.wrap ((N : Int) - (zs.length : Int)) = (bs.length : Int) := by
    have := HLN.out
    rw [show (N : Int) - (zs.length : Int) = (bs.length : Int) by omega]
    exact IntWalk.i64_in _ (by omega)
  have HSS := Lib.hid (show wrap64 (V.mk k i f s l).size = (bs.length : Int) by
    have h1 := HSZ.out.1
    have h2 := HBYE.out
    rw [← h1]
    unfold wrap64; omega)
  generalize (w7.alloc (.cells #[.int .i64 ck, .int .i64 ci, .float .f64 cf, .string cs, .slice sa7 cl.length sc7] 26)) = w8 at *
  go_region_held3 (fun w' => duo w8 w' w.heap.size k i f s (.slice va l.length vc) w7.heap.size ck ci cf cs (.slice sa7 cl.length sc7)) (first | assumption | exact duo.keep (Below.refl _ _).drew HD.out | exact duo.keep hb9 (by assumption))
    (first | (go_at_call 14; refine (size_c (V.mk k i f s l) _ _ _ (HVA.out.below (by assumption : duo _ _ _ _ _ _ _ _ _ _ _ _ _ _).2.2)).mono ?_; rintro e w9 ⟨rfl, hb9⟩; rw [HSS.out]) | (go_at_call 16; refine (clean1_c (V.mk k i f s l) _ _ _ (HVA.out.below (by assumption : duo _ _ _ _ _ _ _ _ _ _ _ _ _ _).2.2)).mono ?_; rintro e w9 ⟨sl9, rfl, hv9, hb9⟩; rw [HCL.out] at hv9 ⊢; simp only [V.k_mk, V.i_mk, V.f_mk, V.s_mk] at hv9 ⊢) | (go_at_call 15; refine (same_c (V.mk ck ci cf cs cl) (V.mk ck ci cf cs cl) _ _ _ _ _ (HCA.out.below (by assumption : duo _ _ _ _ _ _ _ _ _ _ _ _ _ _).2.2) hv9).mono ?_; rintro e w9 ⟨rfl, hb9⟩; rw [V.same_self]))
  have hD9 : duo w8 w9 w.heap.size k i f s (.slice va l.length vc) w7.heap.size ck ci cf cs (.slice sa7 cl.length sc7) := by assumption
  have HD9 := Lib.hid (HBF.out.trans (hD9.2.2.mono HBF.out.size))
  clear hD9 hb9
  go_wp2_with fail
  go_ret
  exact ⟨rfl, HD9.out⟩

set_option maxHeartbeats 4000000 in
theorem wireBack_ok0 (a : Option Addr) (c : Nat) (zs : List Int) (k i : Int) (f : Nat) (s : ByteArray) (l : List V) (va : Option Addr) (vc : Nat) (a2 : Option Addr) (c2 : Nat) (ms : List Int) (w : World)
    (hl : zs.length ≤ c ∧ c ≤ 9223372036854775807) (hc : a = none → c = 0) (hz : BIn w a zs) (hp : ∀ p, a = some p → p.block < w.heap.size) (hl2 : ms.length ≤ c2 ∧ c2 ≤ 9223372036854775807) (hc2 : a2 = none → c2 = 0) (hz2 : BIn w a2 ms)
    (hv : VIn (fun _ => True) w (V.mk k i f s l) (.slice va l.length vc)) (h : (V.mk k i f s l).light = true) (h2 : (zs.length : Int) ≤ 100) (h3 : (ms.length : Int) ≤ 100) (hch : (V.mk k i f s l).check = 0) (hm : ms = []) :
    Calls Try.prog 3 #[.slice a zs.length c, .agg #[.int .i64 k, .int .i64 i, .float .f64 f, .string s, .slice va l.length vc], .slice a2 ms.length c2] w fun e w' => e = .returned (.bool true) ∧ Below w.heap.size w w' := by
  subst hm
  simp only [List.length_nil]
  have HVP := Lib.hid (show vput zs (V.mk k i f s l) = (zs ++ (V.mk k i f s l).bytes, 0) by unfold vput; rw [if_pos hch])
  have HOK := Lib.hid hv.ok
  have HBY := Lib.hid (V.bytes_byt _ (V.check_zero hch).1)
  have HSZ := Lib.hid (And.intro (V.bytes_length _ (V.check_zero hch).1) (V.check_zero hch).2.2)
  have HRD := Lib.hid (vread_put hv.ok hch ([] : List Int))
  have hbl : 0 < (V.mk k i f s l).bytes.length := by rw [V.bytes_mk]; simp
  have hbl2 : (V.mk k i f s l).bytes.length ≤ 4096 := by have := HSZ.out; omega
  clear hch
  have HZ := Lib.hid hz
  have HZ2 := Lib.hid hz2
  have HV := Lib.hid (show VIn (fun b => b < w.heap.size) w (V.mk k i f s l) (.slice va l.length vc) from hv.keep (fun _ _ _ => rfl) (fun b _ hlt => hlt))
  have HP := Lib.hid hp
  have HC := Lib.hid (And.intro hc hc2)
  have HAL := Lib.hid (one.start0 (w0 := w) (k := k) (i := i) (f := f) (s := s) (sl := .slice va l.length vc) (t := 26))
  clear hz hz2 hv hp hc hc2
  go_enter Try.func3, Try.ntmps3
  go_wp2_with fail
  refine (known3_c _).mono ?_
  rintro e w1 ⟨rfl, hb1⟩
  have H1 := Lib.hid (one.keep hb1 HAL.out)
  obtain ⟨⟨c0, c1, c2', c3, c4⟩, _, _⟩ := H1.out
  clear hb1
  go_wp2_with fail
  refine (light_c (V.mk k i f s l) w1 _ _ (HV.out.below H1.out.2.1)).mono ?_
  rintro e w2 ⟨rfl, hb2⟩
  have H2 := Lib.hid (one.keep hb2 H1.out)
  clear hb2 c0 c1 c2' c3 c4 H1 HAL
  rw [h]
  obtain ⟨⟨c0, c1, c2', c3, c4⟩, _, _⟩ := H2.out
  go_wp2_with fail
  have hP2 := Put2_c (V.mk k i f s l) w.heap.size a c zs w2 (.slice va l.length vc) (HZ.out.below H2.out.2.1) HC.out.1 hl.1 H2.out.2.1.size (by omega) (HV.out.below H2.out.2.1)
  rw [HVP.out] at hP2
  refine hP2.mono ?_
  rintro e w3 ⟨sl3, rfl, hbs3, hb3, hat3⟩
  have H3 := Lib.hid (one.keep hb3 H2.out)
  have HF3 := Lib.hid (And.intro hbs3 hat3)
  clear hbs3 hb3 hat3 c0 c1 c2' c3 c4 H2 hP2
  obtain ⟨⟨c0, c1, c2', c3, c4⟩, _, _⟩ := H3.out
  have hsl := fun w => sub_full a zs.length c hl.1 w
  go_wp2_with fail
  refine wp_region_held_drew (S := fun w' => one w w' k i f s (.slice va l.length vc)) (by kernel_rfl) (one.keep (Below.refl _ _).drew H3.out) (fun hT => ?_)
  refine H_take 0 hT rfl (by kernel_rfl) (by kernel_rfl) (by kernel_rfl) (fun _ _ _ h => h) (by rfl) (by (intro w' hw'; (try dsimp only at hw'); go_simp; try with_reducible rfl)) ?_
  try simp only [Act.put, List.setIfInBounds_toArray, List.set_cons_zero, List.set_cons_succ]
  refine H_take 1 hT rfl (by kernel_rfl) (by kernel_rfl) (by kernel_rfl) (fun _ _ _ h => h) (by rfl) (by (intro w' hw'; (try dsimp only at hw'); go_simp; try with_reducible rfl)) ?_
  try simp only [Act.put, List.setIfInBounds_toArray, List.set_cons_zero, List.set_cons_succ]
  refine H_take 2 hT rfl (by kernel_rfl) (by kernel_rfl) (by kernel_rfl) (fun _ _ _ h => h) (by rfl) (by (intro w' hw'; (try dsimp only at hw'); go_simp; try with_reducible rfl)) ?_
  try simp only [Act.put, List.setIfInBounds_toArray, List.set_cons_zero, List.set_cons_succ]
  refine H_take 3 hT rfl (by kernel_rfl) (by kernel_rfl) (by kernel_rfl) (fun _ _ _ h => h) (by rfl) (by (intro w' hw'; (try dsimp only at hw'); go_simp; try with_reducible rfl)) ?_
  try simp only [Act.put, List.setIfInBounds_toArray, List.set_cons_zero, List.set_cons_succ]
  refine H_take 4 hT rfl (by kernel_rfl) (by kernel_rfl) (by kernel_rfl) (fun _ _ _ h => h) (by rfl) (by (intro w' hw'; (try dsimp only at hw'); go_simp; try with_reducible rfl)) ?_
  try simp only [Act.put, List.setIfInBounds_toArray, List.set_cons_zero, List.set_cons_succ]
  refine H_take 5 hT rfl (by kernel_rfl) (by kernel_rfl) (by kernel_rfl) (fun _ _ _ h => h) (by rfl) (by (intro w' hw'; (try dsimp only at hw'); go_simp; try with_reducible rfl)) ?_
  try simp only [Act.put, List.setIfInBounds_toArray, List.set_cons_zero, List.set_cons_succ]
  refine H_take 6 hT rfl (by kernel_rfl) (by kernel_rfl) (by kernel_rfl) (fun _ _ _ h => h) (by rfl) (by (intro w' hw'; (try dsimp only at hw'); go_simp; try with_reducible rfl)) ?_
  try simp only [Act.put, List.setIfInBounds_toArray, List.set_cons_zero, List.set_cons_succ]
  refine H_one 7 rfl (by kernel_rfl) (fun K hK => ?_)
  rw [if_pos (by rfl)]
  go_simp
  have HPB := Lib.hid (show Bs w3.drew w.heap.size (.slice a zs.length zs.length) zs from .inr ⟨a, rfl, HZ.out.below hT.2.1, fun p hp => Nat.lt_of_lt_of_le (HP.out p hp) hT.2.1.size⟩)
  have hP1 := Put1_c (V.mk k i f s l) w.heap.size (.slice a zs.length zs.length) zs w3.drew (.slice va l.length vc) HPB.out hT.2.1.size (by omega) (HV.out.below hT.2.1)
  rw [HVP.out] at hP1
  refine hP1.mono ?_
  rintro e w4 ⟨sl4, rfl, hap4⟩
  have hob : obk w.heap.size (.slice a zs.length zs.length) = none := by
    cases ho : obk w.heap.size (.slice a zs.length zs.length) with
    | none => rfl
    | some q =>
      obtain ⟨e1, e2⟩ := obk_some.1 ho
      cases a with
      | none => cases e1
      | some p => have := HP.out p rfl; have e3 : p.block = q := Option.some.inj e1; omega
  have hb4 : Below w3.drew.heap.size w3.drew w4 := by
    have hg := hap4.grew
    rw [hob] at hg
    exact ⟨hg.os, hg.tape, hg.output, hg.size, fun q hq => hg.block q hq (by simp)⟩
  have HB4 := Lib.hid hb4
  have HS4 := Lib.hid hap4.bs
  refine hK _ _ (one.keep hb4 hT) (fun hT4 => ?_)
  clear hK hT hap4 hob hb4 hP1
  try simp only [Act.put, List.setIfInBounds_toArray, List.set_cons_zero, List.set_cons_succ]
  refine H_take 8 hT4 rfl (by kernel_rfl) (by kernel_rfl) (by kernel_rfl) (fun _ _ _ h => h) (by rfl) (by (intro w' hw'; (try dsimp only at hw'); go_simp; try with_reducible rfl)) ?_
  try simp only [Act.put, List.setIfInBounds_toArray, List.set_cons_zero, List.set_cons_succ]
  refine H_take 9 hT4 rfl (by kernel_rfl) (by kernel_rfl) (by kernel_rfl) (fun _ _ _ h => h) (by rfl) (by (intro w' hw'; (try dsimp only at hw'); go_simp; try with_reducible rfl)) ?_
  try simp only [Act.put, List.setIfInBounds_toArray, List.set_cons_zero, List.set_cons_succ]
  refine H_take 10 hT4 rfl (by kernel_rfl) (by kernel_rfl) (by kernel_rfl) (fun _ _ _ h => h) (by rfl) (by (intro w' hw'; (try dsimp only at hw'); go_simp; try with_reducible rfl)) ?_
  try simp only [Act.put, List.setIfInBounds_toArray, List.set_cons_zero, List.set_cons_succ]
  refine H_take 11 hT4 rfl (by kernel_rfl) (by kernel_rfl) (by kernel_rfl) (fun _ _ _ h => h) (by rfl) (by (intro w' hw'; (try dsimp only at hw'); go_simp; try with_reducible rfl)) ?_
  try simp only [Act.put, List.setIfInBounds_toArray, List.set_cons_zero, List.set_cons_succ]
  refine H_take 12 hT4 rfl (by kernel_rfl) (by kernel_rfl) (by kernel_rfl) (fun _ _ _ h => h) (by rfl) (by (intro w' hw'; (try dsimp only at hw'); go_simp; try with_reducible rfl)) ?_
  try simp only [Act.put, List.setIfInBounds_toArray, List.set_cons_zero, List.set_cons_succ]
  refine wpAnyH_done (by kernel_rfl) ?_ _
  have H4 := Lib.hid hT4
  clear hT4 c0 c1 c2' c3 c4 hsl
  obtain ⟨a3, c3, rfl, hl3, hc3, hbin3⟩ := (HF3.out.1.below (show Below w3.heap.size w3 w4 from ((Below.refl _ w3).drew).trans HB4.out)).binB (HZ.out.byt.append HBY.out) (by simp; omega)
  obtain ⟨a4, c4, rfl, _, _, hbin4⟩ := HS4.out.binB (HZ.out.byt.append HBY.out) (by simp; omega)
  have hcv1 := run_convert_bin w4 a3 (zs ++ (V.mk k i f s l).bytes).length c3 _ hbin3 rfl
  have hcv2 := run_convert_bin w4 a4 (zs ++ (V.mk k i f s l).bytes).length c4 _ hbin4 rfl
  have HZ3 := Lib.hid hbin3
  obtain ⟨a5, c5, ys, hys, hl5, hc5, hbin5, hsl5⟩ := sub_at a3 c3 (zs ++ (V.mk k i f s l).bytes) zs.length (by simp) hl3 hc3
  have hyb : ys = (V.mk k i f s l).bytes := by rw [hys]; simp
  have HZ5 := Lib.hid (hbin5 _ hbin3)
  subst hyb
  obtain ⟨b5, o5, rfl, _⟩ := HZ5.out 0 hbl
  have hln : (zs ++ (V.mk k i f s l).bytes).length = zs.length + (V.mk k i f s l).bytes.length := List.length_append
  generalize hby : (V.mk k i f s l).bytes = bs at *
  generalize hN : (zs ++ bs).length = N at *
  have HN := Lib.hid hN
  have HLN := Lib.hid hln
  have HBYE := Lib.hid hby
  have hzN : (zs.length : Int) ≤ N := by omega
  clear hbin3 hbin4 hbin5 hys hN hby hln
  generalize txtB (zs ++ bs) = tx at hcv1 hcv2
  have HBS4 := Lib.hid (show w.heap.size ≤ w4.heap.size from H4.out.2.1.size)
  have hbm := HZ2.out
  go_wp2_with (first | (at_builtin; (refine wpList_append_bsn _ rfl (.const (.slice none 0 0)) (.tmp 62) rfl w.heap.size bs rfl ⟨b5, o5, none⟩ bs.length c5 rfl rfl (HZ5.out.cells ⟨b5, o5, none⟩ rfl) hbl (by omega) HBS4.out ?_; intro g cap w5 hap5)) | (at_builtin; (refine wpList_append_bs0 _ rfl (.tmp 63) (.tmp 64) rfl w.heap.size (.slice (some ⟨g, 0, none⟩) bs.length cap) bs rfl hap5.bs (by omega) a2 c2 rfl ?_)))
  have hbT := apn_below (Nat.le_refl _) ((by simpa using hap5 : Ap w4 w5 w.heap.size (.slice none 0 0) (.slice (some ⟨g, 0, none⟩) bs.length cap) (bs ++ [])))
  have hTT := ((by simpa using hap5 : Ap w4 w5 w.heap.size (.slice none 0 0) (.slice (some ⟨g, 0, none⟩) bs.length cap) (bs ++ []))).bs
  have hbyt : Byt (bs ++ ([] : List Int)) := (HBY.out : Byt _).append HZ2.out.byt
  obtain ⟨hn6, hl6, hc6, hbin6⟩ := hTT.at_ (by simp; omega) hbyt
  have H6 := Lib.hid (one.keep hbT H4.out)
  have HZ6 := Lib.hid hbin6
  have HRR := HRD.out
  obtain ⟨ck, ci, cf, cs, cl, hcl⟩ := V.parts (V.mk k i f s l).clean
  rw [hcl] at HRR
  have HCL := Lib.hid hcl
  clear hbT hTT hbyt hbin6 hbm hcv1 hcv2 hsl5 H4 HB4 HS4 HF3 H3 hcl hap5
  refine (Read2_n (N := bs.length) HRR hn6.symm ⟨by omega, hl6⟩ hc6 HZ6.out).mono ?_
  rintro e w7 ⟨sa7, sc7, rfl, hv7, hb7⟩
  simp only [V.k_mk, V.i_mk, V.f_mk, V.s_mk, V.l_mk] at hv7 ⊢
  have H7 := Lib.hid (one.keep hb7 H6.out)
  have HV7 := Lib.hid hv7
  have HNN := Lib.hid hn6
  clear hb7 hv7 H6 hn6 hl6 hc6 HRR
  go_wp2_with fail
  have HD := Lib.hid (show duo (w7.alloc (.cells #[.int .i64 ck, .int .i64 ci, .float .f64 cf, .string cs, .slice sa7 cl.length sc7] 26)) (w7.alloc (.cells #[.int .i64 ck, .int .i64 ci, .float .f64 cf, .string cs, .slice sa7 cl.length sc7] 26)) w.heap.size k i f s (.slice va l.length vc) w7.heap.size ck ci cf cs (.slice sa7 cl.length sc7) from ⟨H7.out.1.keep ((Below.refl _ _).alloc (Nat.le_refl _) _), at5.new, Below.refl _ _⟩)
  have HVA := Lib.hid (show VIn (fun b => b < w.heap.size) (w7.alloc (.cells #[.int .i64 ck, .int .i64 ci, .float .f64 cf, .string cs, .slice sa7 cl.length sc7] 26)) (V.mk k i f s l) (.slice va l.length vc) from (HV.out.below H7.out.2.1).below ((Below.refl _ _).alloc (Nat.le_refl _) _))
  have HCA := Lib.hid (HV7.out.below ((Below.refl w7.heap.size w7).alloc (Nat.le_refl _) (.cells #[.int .i64 ck, .int .i64 ci, .float .f64 cf, .string cs, .slice sa7 cl.length sc7] 26)))
  have HBF := Lib.hid (show Below w.heap.size w (w7.alloc (.cells #[.int .i64 ck, .int .i64 ci, .float .f64 cf, .string cs, .slice sa7 cl.length sc7] 26)) from H7.out.2.1.alloc H7.out.2.1.size _)
  have hw1 : IntKind.i64.wrap ((N : Int) - (zs.length : Int)) = (bs.length : Int) := by
    have := HLN.out
    rw [show (N : Int) - (zs.length : Int) = (bs.length : Int) by omega]
    exact IntWalk.i64_in _ (by omega)
  have HSS := Lib.hid (show wrap64 (V.mk k i f s l).size = (bs.length : Int) by
    have h1 := HSZ.out.1
    have h2 := HBYE.out
    rw [← h1]
    unfold wrap64; omega)
  generalize (w7.alloc (.cells #[.int .i64 ck, .int .i64 ci, .float .f64 cf, .string cs, .slice sa7 cl.length sc7] 26)) = w8 at *
  go_region_held3 (fun w' => duo w8 w' w.heap.size k i f s (.slice va l.length vc) w7.heap.size ck ci cf cs (.slice sa7 cl.length sc7)) (first | assumption | exact duo.keep (Below.refl _ _).drew HD.out | exact duo.keep hb9 (by assumption))
    (first | (go_at_call 14; refine (size_c (V.mk k i f s l) _ _ _ (HVA.out.below (by assumption : duo _ _ _ _ _ _ _ _ _ _ _ _ _ _).2.2)).mono ?_; rintro e w9 ⟨rfl, hb9⟩; rw [HSS.out]) | (go_at_call 16; refine (clean1_c (V.mk k i f s l) _ _ _ (HVA.out.below (by assumption : duo _ _ _ _ _ _ _ _ _ _ _ _ _ _).2.2)).mono ?_; rintro e w9 ⟨sl9, rfl, hv9, hb9⟩; rw [HCL.out] at hv9 ⊢; simp only [V.k_mk, V.i_mk, V.f_mk, V.s_mk] at hv9 ⊢) | (go_at_call 15; refine (same_c (V.mk ck ci cf cs cl) (V.mk ck ci cf cs cl) _ _ _ _ _ (HCA.out.below (by assumption : duo _ _ _ _ _ _ _ _ _ _ _ _ _ _).2.2) hv9).mono ?_; rintro e w9 ⟨rfl, hb9⟩; rw [V.same_self]))
  have hD9 : duo w8 w9 w.heap.size k i f s (.slice va l.length vc) w7.heap.size ck ci cf cs (.slice sa7 cl.length sc7) := by assumption
  have HD9 := Lib.hid (HBF.out.trans (hD9.2.2.mono HBF.out.size))
  clear hD9 hb9
  go_wp2_with fail
  go_ret
  exact ⟨rfl, HD9.out⟩

theorem wireBack_c (a : Option Addr) (c : Nat) (zs : List Int) (k i : Int) (f : Nat) (s : ByteArray) (l : List V) (va : Option Addr) (vc : Nat) (a2 : Option Addr) (c2 : Nat) (ms : List Int) (w : World)
    (hl : zs.length ≤ c ∧ c ≤ 9223372036854775807) (hc : a = none → c = 0) (hz : BIn w a zs) (hp : ∀ p, a = some p → p.block < w.heap.size) (hl2 : ms.length ≤ c2 ∧ c2 ≤ 9223372036854775807) (hc2 : a2 = none → c2 = 0) (hz2 : BIn w a2 ms)
    (hv : VIn (fun _ => True) w (V.mk k i f s l) (.slice va l.length vc)) : Calls Try.prog 3 #[.slice a zs.length c, .agg #[.int .i64 k, .int .i64 i, .float .f64 f, .string s, .slice va l.length vc], .slice a2 ms.length c2] w fun e w' => e = .returned (.bool true) ∧ Below w.heap.size w w' := by
  cases h : (V.mk k i f s l).light with
  | false => exact wireBack_light a c zs k i f s l va vc a2 c2 ms w hl hc hz hp hl2 hc2 hz2 hv h
  | true =>
    by_cases h2 : (100 : Int) < zs.length
    · exact wireBack_long a c zs k i f s l va vc a2 c2 ms w hl hc hz hp hl2 hc2 hz2 hv h h2
    by_cases h3 : (100 : Int) < ms.length
    · exact wireBack_long2 a c zs k i f s l va vc a2 c2 ms w hl hc hz hp hl2 hc2 hz2 hv h (by omega) h3
    by_cases hch : (V.mk k i f s l).check = 0
    · by_cases hm : ms = []
      · exact wireBack_ok0 a c zs k i f s l va vc a2 c2 ms w hl hc hz hp hl2 hc2 hz2 hv h (by omega) (by omega) hch hm
      · have hpos : 0 < ms.length := List.length_pos_iff.2 hm
        obtain ⟨bm, om, ha2, _⟩ := hz2 0 hpos
        exact wireBack_ok a c zs k i f s l va vc a2 c2 ms w hl hc hz hp hl2 hc2 hz2 hv h (by omega) (by omega) hch bm om ha2 hpos
    · exact wireBack_err a c zs k i f s l va vc a2 c2 ms w hl hc hz hp hl2 hc2 hz2 hv h (by omega) (by omega) hch
end Go.Proofs.Ytoddajaepnfgnaa
