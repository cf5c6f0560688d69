/- CallBack: the walk. -/
import Derived.Test.YtkhgbbloeeaceaaKn
import Derived.Test.YtkhgbbloeeaceaaLb
import Derived.Test.YtkhgbbloeeaceaaCl
namespace Go.Proofs.Ytkhgbbloeeaceaa
open Go Go.RowKit
set_option maxRecDepth 16000
attribute [local go_sem ↓] run_store_float

abbrev onb (w0 w : World) (c s n : Int) (g m : ByteArray) (sl : Value) : Prop := ok6 w w0.heap.size c s n g m sl ∧ Below w0.heap.size w0 w ∧ w0.heap.size < w.heap.size
theorem onb.keep {w0 w w1 : World} (hb : Below w.heap.size w w1) {c s n g m sl} (h : onb w0 w c s n g m sl) : onb w0 w1 c s n g m sl := ⟨block_below hb h.1, h.2.1.trans (hb.mono (Nat.le_of_lt h.2.2)), Nat.lt_of_lt_of_le h.2.2 hb.size⟩
theorem onb.start0 {w0 : World} {c s n : Int} {g m : ByteArray} {sl : Value} : onb w0 (w0.alloc (.cells #[.int .u32 c, .int .u32 s, .int .u16 n, .string g, .string m, sl] 29)) c s n g m sl := ⟨block_alloc_at _ rfl, (Below.refl _ _).alloc (Nat.le_refl _) _, by simp⟩
theorem callBack_light (a : Option Addr) (c : Nat) (zs : List Int) (oc os_ on : Nat) (og om : ByteArray) (l : List V) (va : Option Addr) (vc : Nat) (a2 : Option Addr) (c2 : Nat) (ms : List Int) (w : World)
    (hl : zs.length ≤ c ∧ c ≤ 9223372036854775807) (hc : a = none → c = 0) (hz : BIn w a zs) (hp : ∀ p, a = some p → p.block < w.heap.size) (hl2 : ms.length ≤ c2 ∧ c2 ≤ 9223372036854775807) (hc2 : a2 = none → c2 = 0) (hz2 : BIn w a2 ms) (hi : oc < 4294967296 ∧ os_ < 4294967296 ∧ on < 65536) (hs : og.size ≤ 140737488351232 ∧ om.size ≤ 140737488351232)
    (hv : VIn (fun _ => True) w (VL l) (.slice va l.length vc)) (h : (decide (og.size ≤ 100) && (decide (om.size ≤ 100) && V.lights l)) = false) :
    Calls Try.prog 7 #[.slice a zs.length c, oval oc os_ on og om (.slice va l.length vc), .slice a2 ms.length c2] w fun e w' => e = .returned (.bool true) ∧ Below w.heap.size w w' := by
  have HZ := Lib.hid hz
  have HZ2 := Lib.hid hz2
  have HV := Lib.hid (show VIn (fun b => b < w.heap.size) w (VL l) (.slice va l.length vc) from hv.keep (fun _ _ _ => rfl) (fun b _ hlt => hlt))
  have HP := Lib.hid hp
  have HC := Lib.hid (And.intro hc hc2)
  have HAL := Lib.hid (onb.start0 (w0 := w) (c := oc) (s := os_) (n := on) (g := og) (m := om) (sl := .slice va l.length vc))
  clear hz hz2 hv hp hc hc2
  go_enter Try.func7, Try.ntmps7
  go_wp2_with fail
  refine (known6_c _).mono ?_
  rintro e w1 ⟨rfl, hb1⟩
  have H1 := Lib.hid (onb.keep hb1 HAL.out)
  obtain ⟨⟨⟨c0, c1, c2'⟩, c3, c4, c5⟩, _, _⟩ := H1.out.1.cells
  clear hb1
  go_wp2_with fail
  refine (lightop_c oc os_ on og om l _ w1 _ hs (HV.out.below H1.out.2.1)).mono ?_
  rintro e w2 ⟨rfl, hb2⟩
  have H2 := Lib.hid (onb.keep hb2 H1.out)
  clear hb2 c0 c1 c2' c3 c4 c5 H1 HAL
  rw [h]
  go_wp2_with fail
  go_ret
  exact ⟨rfl, H2.out.2.1⟩

theorem callBack_long (a : Option Addr) (c : Nat) (zs : List Int) (oc os_ on : Nat) (og om : ByteArray) (l : List V) (va : Option Addr) (vc : Nat) (a2 : Option Addr) (c2 : Nat) (ms : List Int) (w : World)
    (hl : zs.length ≤ c ∧ c ≤ 9223372036854775807) (hc : a = none → c = 0) (hz : BIn w a zs) (hp : ∀ p, a = some p → p.block < w.heap.size) (hl2 : ms.length ≤ c2 ∧ c2 ≤ 9223372036854775807) (hc2 : a2 = none → c2 = 0) (hz2 : BIn w a2 ms) (hi : oc < 4294967296 ∧ os_ < 4294967296 ∧ on < 65536) (hs : og.size ≤ 140737488351232 ∧ om.size ≤ 140737488351232)
    (hv : VIn (fun _ => True) w (VL l) (.slice va l.length vc)) (h : (decide (og.size ≤ 100) && (decide (om.size ≤ 100) && V.lights l)) = true) (h2 : (100 : Int) < zs.length) :
    Calls Try.prog 7 #[.slice a zs.length c, oval oc os_ on og om (.slice va l.length vc), .slice a2 ms.length c2] w fun e w' => e = .returned (.bool true) ∧ Below w.heap.size w w' := by
  have HZ := Lib.hid hz
  have HZ2 := Lib.hid hz2
  have HV := Lib.hid (show VIn (fun b => b < w.heap.size) w (VL l) (.slice va l.length vc) from hv.keep (fun _ _ _ => rfl) (fun b _ hlt => hlt))
  have HP := Lib.hid hp
  have HC := Lib.hid (And.intro hc hc2)
  have HAL := Lib.hid (onb.start0 (w0 := w) (c := oc) (s := os_) (n := on) (g := og) (m := om) (sl := .slice va l.length vc))
  clear hz hz2 hv hp hc hc2
  go_enter Try.func7, Try.ntmps7
  go_wp2_with fail
  refine (known6_c _).mono ?_
  rintro e w1 ⟨rfl, hb1⟩
  have H1 := Lib.hid (onb.keep hb1 HAL.out)
  obtain ⟨⟨⟨c0, c1, c2'⟩, c3, c4, c5⟩, _, _⟩ := H1.out.1.cells
  clear hb1
  go_wp2_with fail
  refine (lightop_c oc os_ on og om l _ w1 _ hs (HV.out.below H1.out.2.1)).mono ?_
  rintro e w2 ⟨rfl, hb2⟩
  have H2 := Lib.hid (onb.keep hb2 H1.out)
  clear hb2 c0 c1 c2' c3 c4 c5 H1 HAL
  rw [h]
  go_wp2_with fail
  go_ret
  exact ⟨rfl, H2.out.2.1⟩

theorem callBack_long2 (a : Option Addr) (c : Nat) (zs : List Int) (oc os_ on : Nat) (og om : ByteArray) (l : List V) (va : Option Addr) (vc : Nat) (a2 : Option Addr) (c2 : Nat) (ms : List Int) (w : World)
    (hl : zs.length ≤ c ∧ c ≤ 9223372036854775807) (hc : a = none → c = 0) (hz : BIn w a zs) (hp : ∀ p, a = some p → p.block < w.heap.size) (hl2 : ms.length ≤ c2 ∧ c2 ≤ 9223372036854775807) (hc2 : a2 = none → c2 = 0) (hz2 : BIn w a2 ms) (hi : oc < 4294967296 ∧ os_ < 4294967296 ∧ on < 65536) (hs : og.size ≤ 140737488351232 ∧ om.size ≤ 140737488351232)
    (hv : VIn (fun _ => True) w (VL l) (.slice va l.length vc)) (h : (decide (og.size ≤ 100) && (decide (om.size ≤ 100) && V.lights l)) = true) (h2 : (zs.length : Int) ≤ 100) (h3 : (100 : Int) < ms.length) :
    Calls Try.prog 7 #[.slice a zs.length c, oval oc os_ on og om (.slice va l.length vc), .slice a2 ms.length c2] w fun e w' => e = .returned (.bool true) ∧ Below w.heap.size w w' := by
  have HZ := Lib.hid hz
  have HZ2 := Lib.hid hz2
  have HV := Lib.hid (show VIn (fun b => b < w.heap.size) w (VL l) (.slice va l.length vc) from hv.keep (fun _ _ _ => rfl) (fun b _ hlt => hlt))
  have HP := Lib.hid hp
  have HC := Lib.hid (And.intro hc hc2)
  have HAL := Lib.hid (onb.start0 (w0 := w) (c := oc) (s := os_) (n := on) (g := og) (m := om) (sl := .slice va l.length vc))
  clear hz hz2 hv hp hc hc2
  go_enter Try.func7, Try.ntmps7
  go_wp2_with fail
  refine (known6_c _).mono ?_
  rintro e w1 ⟨rfl, hb1⟩
  have H1 := Lib.hid (onb.keep hb1 HAL.out)
  obtain ⟨⟨⟨c0, c1, c2'⟩, c3, c4, c5⟩, _, _⟩ := H1.out.1.cells
  clear hb1
  go_wp2_with fail
  refine (lightop_c oc os_ on og om l _ w1 _ hs (HV.out.below H1.out.2.1)).mono ?_
  rintro e w2 ⟨rfl, hb2⟩
  have H2 := Lib.hid (onb.keep hb2 H1.out)
  clear hb2 c0 c1 c2' c3 c4 c5 H1 HAL
  rw [h]
  go_wp2_with fail
  go_ret
  exact ⟨rfl, H2.out.2.1⟩

set_option maxHeartbeats 4000000 in
theorem callBack_err (a : Option Addr) (c : Nat) (zs : List Int) (oc os_ on : Nat) (og om : ByteArray) (l : List V) (va : Option Addr) (vc : Nat) (a2 : Option Addr) (c2 : Nat) (ms : List Int) (w : World)
    (hl : zs.length ≤ c ∧ c ≤ 9223372036854775807) (hc : a = none → c = 0) (hz : BIn w a zs) (hp : ∀ p, a = some p → p.block < w.heap.size) (hl2 : ms.length ≤ c2 ∧ c2 ≤ 9223372036854775807) (hc2 : a2 = none → c2 = 0) (hz2 : BIn w a2 ms) (hi : oc < 4294967296 ∧ os_ < 4294967296 ∧ on < 65536) (hs : og.size ≤ 140737488351232 ∧ om.size ≤ 140737488351232)
    (hv : VIn (fun _ => True) w (VL l) (.slice va l.length vc)) (h : (decide (og.size ≤ 100) && (decide (om.size ≤ 100) && V.lights l)) = true) (h2 : (zs.length : Int) ≤ 100) (h3 : (ms.length : Int) ≤ 100) (E : Int) (hE : E ≠ 0) (hput : oput zs oc os_ on og om l = ([], E)) :
    Calls Try.prog 7 #[.slice a zs.length c, oval oc os_ on og om (.slice va l.length vc), .slice a2 ms.length c2] w fun e w' => e = .returned (.bool true) ∧ Below w.heap.size w w' := by
  have HVP := Lib.hid hput
  obtain ⟨L, hL⟩ : ∃ L, L = l.map V.clean := ⟨_, rfl⟩
  have HLC := Lib.hid hL.symm
  clear hL
  have hE0 : (E != 0) = true := by simpa using hE
  have hEE : (E != E) = false := by simp
  clear hE hput
  have HZ := Lib.hid hz
  have HZ2 := Lib.hid hz2
  have HV := Lib.hid (show VIn (fun b => b < w.heap.size) w (VL l) (.slice va l.length vc) from hv.keep (fun _ _ _ => rfl) (fun b _ hlt => hlt))
  have HP := Lib.hid hp
  have HC := Lib.hid (And.intro hc hc2)
  have HAL := Lib.hid (onb.start0 (w0 := w) (c := oc) (s := os_) (n := on) (g := og) (m := om) (sl := .slice va l.length vc))
  clear hz hz2 hv hp hc hc2
  go_enter Try.func7, Try.ntmps7
  go_wp2_with fail
  refine (known6_c _).mono ?_
  rintro e w1 ⟨rfl, hb1⟩
  have H1 := Lib.hid (onb.keep hb1 HAL.out)
  obtain ⟨⟨⟨c0, c1, c2'⟩, c3, c4, c5⟩, _, _⟩ := H1.out.1.cells
  clear hb1
  go_wp2_with fail
  refine (lightop_c oc os_ on og om l _ w1 _ hs (HV.out.below H1.out.2.1)).mono ?_
  rintro e w2 ⟨rfl, hb2⟩
  have H2 := Lib.hid (onb.keep hb2 H1.out)
  clear hb2 c0 c1 c2' c3 c4 c5 H1 HAL
  rw [h]
  obtain ⟨⟨⟨c0, c1, c2'⟩, c3, c4, c5⟩, _, _⟩ := H2.out.1.cells
  go_wp2_with fail
  have hP2 := put2_op_c w.heap.size a c zs oc os_ on og om l (.slice va l.length vc) w2 hi hs (HZ.out.below H2.out.2.1) HC.out.1 hl.1 H2.out.2.1.size (by omega) (HV.out.below H2.out.2.1)
  rw [HVP.out] at hP2
  refine hP2.mono ?_
  rintro e w3 ⟨sl3, rfl, hbs3, hb3, hat3⟩
  have H3 := Lib.hid (onb.keep hb3 H2.out)
  have HF3 := Lib.hid (And.intro hbs3 hat3)
  clear hbs3 hb3 hat3 c0 c1 c2' c3 c4 c5 H2 hP2
  obtain ⟨⟨⟨c0, c1, c2'⟩, c3, c4, c5⟩, _, _⟩ := H3.out.1.cells
  have hsl := fun w => sub_full a zs.length c hl.1 w
  go_wp2_with fail
  refine wp_region_held_drew (S := fun w' => at6 w' w.heap.size oc os_ on og om (.slice va l.length vc) ∧ onb w w' oc os_ on og om (.slice va l.length vc)) (by kernel_rfl) ⟨(onb.keep (Below.refl _ _).drew H3.out).1.cells.1, onb.keep (Below.refl _ _).drew H3.out⟩ (fun hT => ?_)
  refine H_take 0 hT rfl (by kernel_rfl) (by kernel_rfl) (by kernel_rfl) (fun _ _ _ h => h) (by rfl) (by (intro w' hw'; (try dsimp only at hw'); go_simp; try with_reducible rfl)) ?_
  try simp only [Act.put, List.setIfInBounds_toArray, List.set_cons_zero, List.set_cons_succ]
  refine H_take 1 hT rfl (by kernel_rfl) (by kernel_rfl) (by kernel_rfl) (fun _ _ _ h => h) (by rfl) (by (intro w' hw'; (try dsimp only at hw'); go_simp; try with_reducible rfl)) ?_
  try simp only [Act.put, List.setIfInBounds_toArray, List.set_cons_zero, List.set_cons_succ]
  refine H_take 2 hT rfl (by kernel_rfl) (by kernel_rfl) (by kernel_rfl) (fun _ _ _ h => h) (by rfl) (by (intro w' hw'; (try dsimp only at hw'); go_simp; try with_reducible rfl)) ?_
  try simp only [Act.put, List.setIfInBounds_toArray, List.set_cons_zero, List.set_cons_succ]
  refine H_take 3 hT rfl (by kernel_rfl) (by kernel_rfl) (by kernel_rfl) (fun _ _ _ h => h) (by rfl) (by (intro w' hw'; (try dsimp only at hw'); go_simp; try with_reducible rfl)) ?_
  try simp only [Act.put, List.setIfInBounds_toArray, List.set_cons_zero, List.set_cons_succ]
  refine H_take 4 hT rfl (by kernel_rfl) (by kernel_rfl) (by kernel_rfl) (fun _ _ _ h => h) (by rfl) (by (intro w' hw'; (try dsimp only at hw'); go_simp; try with_reducible rfl)) ?_
  try simp only [Act.put, List.setIfInBounds_toArray, List.set_cons_zero, List.set_cons_succ]
  refine H_take 5 hT rfl (by kernel_rfl) (by kernel_rfl) (by kernel_rfl) (fun _ _ _ h => h) (by rfl) (by (intro w' hw'; (try dsimp only at hw'); go_simp; try with_reducible rfl)) ?_
  try simp only [Act.put, List.setIfInBounds_toArray, List.set_cons_zero, List.set_cons_succ]
  refine H_take 6 hT rfl (by kernel_rfl) (by kernel_rfl) (by kernel_rfl) (fun _ _ _ h => h) (by rfl) (by (intro w' hw'; (try dsimp only at hw'); go_simp; try with_reducible rfl)) ?_
  try simp only [Act.put, List.setIfInBounds_toArray, List.set_cons_zero, List.set_cons_succ]
  refine H_one 7 rfl (by kernel_rfl) (fun K hK => ?_)
  rw [if_pos (by rfl)]
  go_simp
  have HPB := Lib.hid (show Bs w3.drew w.heap.size (.slice a zs.length zs.length) zs from .inr ⟨a, rfl, HZ.out.below hT.2.2.1, fun p hp => Nat.lt_of_lt_of_le (HP.out p hp) hT.2.2.1.size⟩)
  have hP1 := putOp1_c w.heap.size (.slice a zs.length zs.length) zs oc os_ on og om l (.slice va l.length vc) w3.drew hi hs HPB.out hT.2.2.1.size (by omega) (HV.out.below hT.2.2.1)
  rw [HVP.out] at hP1
  refine hP1.mono ?_
  rintro e w4 ⟨sl4, rfl, hap4⟩
  have hb4 : Below w3.drew.heap.size w3.drew w4 := by
    have hob : obk w.heap.size (.slice a zs.length zs.length) = none := by
      cases ho : obk w.heap.size (.slice a zs.length zs.length) with
      | none => rfl
      | some q =>
        obtain ⟨e1, e2⟩ := obk_some.1 ho
        cases a with
        | none => cases e1
        | some p => have := HP.out p rfl; have e3 : p.block = q := Option.some.inj e1; omega
    have hg := hap4.grew
    rw [hob] at hg
    exact ⟨hg.os, hg.tape, hg.output, hg.size, fun q hq => hg.block q hq (by simp)⟩
  have HB4 := Lib.hid hb4
  have HS4 := Lib.hid hap4.bs
  have hT4' := onb.keep hb4 hT.2
  refine hK _ _ ⟨hT4'.1.cells.1, hT4'⟩ (fun hT4 => ?_)
  clear hK hT hap4 hb4 hP1 hT4'
  try simp only [Act.put, List.setIfInBounds_toArray, List.set_cons_zero, List.set_cons_succ]
  refine H_take 8 hT4 rfl (by kernel_rfl) (by kernel_rfl) (by kernel_rfl) (fun _ _ _ h => h) (by rfl) (by (intro w' hw'; (try dsimp only at hw'); go_simp; try with_reducible rfl)) ?_
  try simp only [Act.put, List.setIfInBounds_toArray, List.set_cons_zero, List.set_cons_succ]
  refine H_take 9 hT4 rfl (by kernel_rfl) (by kernel_rfl) (by kernel_rfl) (fun _ _ _ h => h) (by rfl) (by (intro w' hw'; (try dsimp only at hw'); go_simp; try with_reducible rfl)) ?_
  try simp only [Act.put, List.setIfInBounds_toArray, List.set_cons_zero, List.set_cons_succ]
  refine H_take 10 hT4 rfl (by kernel_rfl) (by kernel_rfl) (by kernel_rfl) (fun _ _ _ h => h) (by rfl) (by (intro w' hw'; (try dsimp only at hw'); go_simp; try with_reducible rfl)) ?_
  try simp only [Act.put, List.setIfInBounds_toArray, List.set_cons_zero, List.set_cons_succ]
  refine H_take 11 hT4 rfl (by kernel_rfl) (by kernel_rfl) (by kernel_rfl) (fun _ _ _ h => h) (by rfl) (by (intro w' hw'; (try dsimp only at hw'); go_simp; try with_reducible rfl)) ?_
  try simp only [Act.put, List.setIfInBounds_toArray, List.set_cons_zero, List.set_cons_succ]
  refine H_take 12 hT4 rfl (by kernel_rfl) (by kernel_rfl) (by kernel_rfl) (fun _ _ _ h => h) (by rfl) (by (intro w' hw'; (try dsimp only at hw'); go_simp; try with_reducible rfl)) ?_
  try simp only [Act.put, List.setIfInBounds_toArray, List.set_cons_zero, List.set_cons_succ]
  refine wpAnyH_done (by kernel_rfl) ?_ _
  have H4 := Lib.hid hT4.2
  clear hT4 c0 c1 c2' c3 c4 c5 hsl
  obtain ⟨a3, c3, rfl, _, _, hbin3⟩ := (HF3.out.1.below (show Below w3.heap.size w3 w4 from ((Below.refl _ w3).drew).trans HB4.out)).binB (fun z hz => by cases hz) (by simp)
  obtain ⟨a4, c4, rfl, _, _, hbin4⟩ := HS4.out.binB (fun z hz => by cases hz) (by simp)
  have hcv1 := fun (w' : World) (hb : Below w4.heap.size w4 w') => run_convert_bin w' a3 0 c3 [] (hbin3.below hb) rfl
  have hcv2 := fun (w' : World) (hb : Below w4.heap.size w4 w') => run_convert_bin w' a4 0 c4 [] (hbin4.below hb) rfl
  simp only [List.length_nil]
  clear hbin3 hbin4
  generalize txtB [] = tx at hcv1 hcv2
  obtain ⟨⟨⟨c0, c1, c2'⟩, c3, c4, c5⟩, _, _⟩ := H4.out.1.cells
  go_wp2_with fail
  refine wp_region_held_drew (S := fun w' => (at6 w' w.heap.size oc os_ on og om (.slice va l.length vc) ∧ onb w w' oc os_ on og om (.slice va l.length vc)) ∧ Below w4.heap.size w4 w') (by kernel_rfl) ⟨⟨(onb.keep (Below.refl _ _).drew H4.out).1.cells.1, onb.keep (Below.refl _ _).drew H4.out⟩, (Below.refl _ _).drew⟩ (fun hT => ?_)
  refine H_take 0 hT rfl (by kernel_rfl) (by kernel_rfl) (by kernel_rfl) (fun _ _ _ h => h) (by rfl) (by (intro w' hw'; (try dsimp only at hw'); go_simp; try with_reducible rfl)) ?_
  try simp only [Act.put, List.setIfInBounds_toArray, List.set_cons_zero, List.set_cons_succ]
  refine H_take 1 hT rfl (by kernel_rfl) (by kernel_rfl) (by kernel_rfl) (fun _ _ _ h => h) (by rfl) (by (intro w' hw'; (try dsimp only at hw'); go_simp; try with_reducible rfl)) ?_
  try simp only [Act.put, List.setIfInBounds_toArray, List.set_cons_zero, List.set_cons_succ]
  refine H_take 2 hT rfl (by kernel_rfl) (by kernel_rfl) (by kernel_rfl) (fun _ _ _ h => h) (by rfl) (by (intro w' hw'; (try dsimp only at hw'); go_simp; try with_reducible rfl)) ?_
  try simp only [Act.put, List.setIfInBounds_toArray, List.set_cons_zero, List.set_cons_succ]
  refine H_take 3 hT rfl (by kernel_rfl) (by kernel_rfl) (by kernel_rfl) (fun _ _ _ h => h) (by rfl) (by (intro w' hw'; (try dsimp only at hw'); go_simp; try with_reducible rfl)) ?_
  try simp only [Act.put, List.setIfInBounds_toArray, List.set_cons_zero, List.set_cons_succ]
  refine H_take 4 hT rfl (by kernel_rfl) (by kernel_rfl) (by kernel_rfl) (fun _ _ _ h => h) (by rfl) (by (intro w' hw'; (try dsimp only at hw'); go_simp; try with_reducible rfl)) ?_
  try simp only [Act.put, List.setIfInBounds_toArray, List.set_cons_zero, List.set_cons_succ]
  refine H_take 5 hT rfl (by kernel_rfl) (by kernel_rfl) (by kernel_rfl) (fun _ _ _ h => h) (by rfl) (by (intro w' hw'; (try dsimp only at hw'); go_simp; first | (with_reducible rfl) | exact hcv1 w' hw'.2 | (rw [hcv1 w' hw'.2]; rfl) | (simp only [hcv1 w' hw'.2]; rfl))) ?_
  try simp only [Act.put, List.setIfInBounds_toArray, List.set_cons_zero, List.set_cons_succ]
  refine H_take 6 hT rfl (by kernel_rfl) (by kernel_rfl) (by kernel_rfl) (fun _ _ _ h => h) (by rfl) (by (intro w' hw'; (try dsimp only at hw'); go_simp; try with_reducible rfl)) ?_
  try simp only [Act.put, List.setIfInBounds_toArray, List.set_cons_zero, List.set_cons_succ]
  refine H_take 7 hT rfl (by kernel_rfl) (by kernel_rfl) (by kernel_rfl) (fun _ _ _ h => h) (by rfl) (by (intro w' hw'; (try dsimp only at hw'); go_simp; first | (with_reducible rfl) | exact hcv2 w' hw'.2 | (rw [hcv2 w' hw'.2]; rfl) | (simp only [hcv2 w' hw'.2]; rfl))) ?_
  try simp only [Act.put, List.setIfInBounds_toArray, List.set_cons_zero, List.set_cons_succ]
  refine H_take 8 hT rfl (by kernel_rfl) (by kernel_rfl) (by kernel_rfl) (fun _ _ _ h => h) (by rfl) (by (intro w' hw'; (try dsimp only at hw'); go_simp; try with_reducible rfl)) ?_
  try simp only [Act.put, List.setIfInBounds_toArray, List.set_cons_zero, List.set_cons_succ]
  refine H_take 9 hT rfl (by kernel_rfl) (by kernel_rfl) (by kernel_rfl) (fun _ _ _ h => h) (by rfl) (by (intro w' hw'; (try dsimp only at hw'); go_simp; try with_reducible rfl)) ?_
  try simp only [Act.put, List.setIfInBounds_toArray, List.set_cons_zero, List.set_cons_succ]
  refine H_take 10 hT rfl (by kernel_rfl) (by kernel_rfl) (by kernel_rfl) (fun _ _ _ h => h) (by rfl) (by (intro w' hw'; (try dsimp only at hw'); go_simp; try with_reducible rfl)) ?_
  try simp only [Act.put, List.setIfInBounds_toArray, List.set_cons_zero, List.set_cons_succ]
  refine H_take 11 hT rfl (by kernel_rfl) (by kernel_rfl) (by kernel_rfl) (fun _ _ _ h => h) (by rfl) (by (intro w' hw'; (try dsimp only at hw'); go_simp; try with_reducible rfl)) ?_
  try simp only [Act.put, List.setIfInBounds_toArray, List.set_cons_zero, List.set_cons_succ]
  refine H_take 13 hT rfl (by kernel_rfl) (by kernel_rfl) (by kernel_rfl) (fun _ _ _ h => h) (by rfl) (by (intro w' hw'; (try dsimp only at hw'); go_simp; try with_reducible rfl)) ?_
  try simp only [Act.put, List.setIfInBounds_toArray, List.set_cons_zero, List.set_cons_succ]
  refine H_one 12 rfl (by kernel_rfl) (fun K hK => ?_)
  rw [if_pos (by rfl)]
  go_simp
  refine (cleanO2_c oc os_ on og om l va vc _ _ (HV.out.below hT.1.2.2.1)).mono ?_
  rintro e v1 ⟨sa1, sc1, rfl, hvv1, hbb1⟩
  rw [HLC.out] at hvv1 ⊢
  have HV1 := Lib.hid hvv1
  have hT1' := onb.keep hbb1 hT.1.2
  refine hK _ _ ⟨⟨hT1'.1.cells.1, hT1'⟩, hT.2.trans (hbb1.mono hT.2.size)⟩ (fun hT1 => ?_)
  clear hK hT hbb1 hvv1 hT1'
  try simp only [Act.put, List.setIfInBounds_toArray, List.set_cons_zero, List.set_cons_succ]
  refine H_one 14 rfl (by kernel_rfl) (fun K hK => ?_)
  rw [if_pos (by rfl)]
  go_simp
  refine (cleanO1_c oc os_ on og om l va vc _ _ (HV.out.below hT1.1.2.2.1)).mono ?_
  rintro e v2 ⟨sa2, sc2, rfl, hvv2, hbb2⟩
  rw [HLC.out] at hvv2 ⊢
  have HV2 := Lib.hid hvv2
  have HV1b := Lib.hid (HV1.out.below hbb2)
  have hT2' := onb.keep hbb2 hT1.1.2
  refine hK _ _ ⟨⟨hT2'.1.cells.1, hT2'⟩, hT1.2.trans (hbb2.mono hT1.2.size)⟩ (fun hT2 => ?_)
  clear hK hT1 hbb2 hvv2 hT2'
  try simp only [Act.put, List.setIfInBounds_toArray, List.set_cons_zero, List.set_cons_succ]
  refine H_one 15 rfl (by kernel_rfl) (fun K hK => ?_)
  rw [if_pos (by rfl)]
  go_simp
  refine (op_c oc os_ on og om L _ oc os_ on og om L _ v2 _ _ HV1b.out HV2.out).mono ?_
  rintro e v3 ⟨rfl, hbb3⟩
  rw [sameO_self]
  have hT3' := onb.keep hbb3 hT2.1.2
  refine hK _ _ ⟨⟨hT3'.1.cells.1, hT3'⟩, hT2.2.trans (hbb3.mono hT2.2.size)⟩ (fun hT3 => ?_)
  clear hK hT2 hbb3 hT3'
  try simp only [Act.put, List.setIfInBounds_toArray, List.set_cons_zero, List.set_cons_succ]
  refine H_take 16 hT3 rfl (by kernel_rfl) (by kernel_rfl) (by kernel_rfl) (fun _ _ _ h => h) (by rfl) (by (intro w' hw'; (try dsimp only at hw'); go_simp; try with_reducible rfl)) ?_
  try simp only [Act.put, List.setIfInBounds_toArray, List.set_cons_zero, List.set_cons_succ]
  refine H_take 17 hT3 rfl (by kernel_rfl) (by kernel_rfl) (by kernel_rfl) (fun _ _ _ h => h) (by rfl) (by (intro w' hw'; (try dsimp only at hw'); go_simp; try with_reducible rfl)) ?_
  try simp only [Act.put, List.setIfInBounds_toArray, List.set_cons_zero, List.set_cons_succ]
  refine wpAnyH_done (by kernel_rfl) ?_ _
  have H5 := Lib.hid hT3.1.2
  have HB5 := Lib.hid hT3.2
  clear hT3 c0 c1 c2' c3 c4 c5 hcv1 hcv2
  go_wp2_with fail
  go_ret
  exact ⟨rfl, H5.out.2.1⟩

set_option maxHeartbeats 8000000 in
theorem callBack_ok (a : Option Addr) (c : Nat) (zs : List Int) (oc os_ on : Nat) (og om : ByteArray) (l : List V) (va : Option Addr) (vc : Nat) (a2 : Option Addr) (c2 : Nat) (ms : List Int) (w : World)
    (hl : zs.length ≤ c ∧ c ≤ 9223372036854775807) (hc : a = none → c = 0) (hz : BIn w a zs) (hp : ∀ p, a = some p → p.block < w.heap.size) (hl2 : ms.length ≤ c2 ∧ c2 ≤ 9223372036854775807) (hc2 : a2 = none → c2 = 0) (hz2 : BIn w a2 ms) (hi : oc < 4294967296 ∧ os_ < 4294967296 ∧ on < 65536) (hs : og.size ≤ 140737488351232 ∧ om.size ≤ 140737488351232)
    (hv : VIn (fun _ => True) w (VL l) (.slice va l.length vc)) (h : (decide (og.size ≤ 100) && (decide (om.size ≤ 100) && V.lights l)) = true) (h2 : (zs.length : Int) ≤ 100) (h3 : (ms.length : Int) ≤ 100) (bs : List Int) (L : List V) (hL : L = l.map V.clean) (hput : oput zs oc os_ on og om l = (zs ++ bs, 0)) (hby : Byt bs) (hbl : 0 < bs.length) (hbl2 : bs.length ≤ 200000) (hrd : oread (bs ++ ms) = (⟨oc, os_, on, og, om, L⟩, (bs.length : Int), 0)) (bm om_ : Nat) (ha2 : a2 = some ⟨bm, om_, none⟩) (hm : 0 < ms.length) :
    Calls Try.prog 7 #[.slice a zs.length c, oval oc os_ on og om (.slice va l.length vc), .slice a2 ms.length c2] w fun e w' => e = .returned (.bool true) ∧ Below w.heap.size w w' := by
  subst ha2
  have HVP := Lib.hid hput
  have HBY := Lib.hid hby
  have HRD := Lib.hid hrd
  have HLC := Lib.hid hL.symm
  clear hput hby hrd hL
  have HZ := Lib.hid hz
  have HZ2 := Lib.hid hz2
  have HV := Lib.hid (show VIn (fun b => b < w.heap.size) w (VL l) (.slice va l.length vc) from hv.keep (fun _ _ _ => rfl) (fun b _ hlt => hlt))
  have HP := Lib.hid hp
  have HC := Lib.hid (And.intro hc hc2)
  have HAL := Lib.hid (onb.start0 (w0 := w) (c := oc) (s := os_) (n := on) (g := og) (m := om) (sl := .slice va l.length vc))
  clear hz hz2 hv hp hc hc2
  go_enter Try.func7, Try.ntmps7
  go_wp2_with fail
  refine (known6_c _).mono ?_
  rintro e w1 ⟨rfl, hb1⟩
  have H1 := Lib.hid (onb.keep hb1 HAL.out)
  obtain ⟨⟨⟨c0, c1, c2'⟩, c3, c4, c5⟩, _, _⟩ := H1.out.1.cells
  clear hb1
  go_wp2_with fail
  refine (lightop_c oc os_ on og om l _ w1 _ hs (HV.out.below H1.out.2.1)).mono ?_
  rintro e w2 ⟨rfl, hb2⟩
  have H2 := Lib.hid (onb.keep hb2 H1.out)
  clear hb2 c0 c1 c2' c3 c4 c5 H1 HAL
  rw [h]
  obtain ⟨⟨⟨c0, c1, c2'⟩, c3, c4, c5⟩, _, _⟩ := H2.out.1.cells
  go_wp2_with fail
  have hP2 := put2_op_c w.heap.size a c zs oc os_ on og om l (.slice va l.length vc) w2 hi hs (HZ.out.below H2.out.2.1) HC.out.1 hl.1 H2.out.2.1.size (by omega) (HV.out.below H2.out.2.1)
  rw [HVP.out] at hP2
  refine hP2.mono ?_
  rintro e w3 ⟨sl3, rfl, hbs3, hb3, hat3⟩
  have H3 := Lib.hid (onb.keep hb3 H2.out)
  have HF3 := Lib.hid (And.intro hbs3 hat3)
  clear hbs3 hb3 hat3 c0 c1 c2' c3 c4 c5 H2 hP2
  obtain ⟨⟨⟨c0, c1, c2'⟩, c3, c4, c5⟩, _, _⟩ := H3.out.1.cells
  have hsl := fun w => sub_full a zs.length c hl.1 w
  go_wp2_with fail
  refine wp_region_held_drew (S := fun w' => at6 w' w.heap.size oc os_ on og om (.slice va l.length vc) ∧ onb w w' oc os_ on og om (.slice va l.length vc)) (by kernel_rfl) ⟨(onb.keep (Below.refl _ _).drew H3.out).1.cells.1, onb.keep (Below.refl _ _).drew H3.out⟩ (fun hT => ?_)
  refine H_take 0 hT rfl (by kernel_rfl) (by kernel_rfl) (by kernel_rfl) (fun _ _ _ h => h) (by rfl) (by (intro w' hw'; (try dsimp only at hw'); go_simp; try with_reducible rfl)) ?_
  try simp only [Act.put, List.setIfInBounds_toArray, List.set_cons_zero, List.set_cons_succ]
  refine H_take 1 hT rfl (by kernel_rfl) (by kernel_rfl) (by kernel_rfl) (fun _ _ _ h => h) (by rfl) (by (intro w' hw'; (try dsimp only at hw'); go_simp; try with_reducible rfl)) ?_
  try simp only [Act.put, List.setIfInBounds_toArray, List.set_cons_zero, List.set_cons_succ]
  refine H_take 2 hT rfl (by kernel_rfl) (by kernel_rfl) (by kernel_rfl) (fun _ _ _ h => h) (by rfl) (by (intro w' hw'; (try dsimp only at hw'); go_simp; try with_reducible rfl)) ?_
  try simp only [Act.put, List.setIfInBounds_toArray, List.set_cons_zero, List.set_cons_succ]
  refine H_take 3 hT rfl (by kernel_rfl) (by kernel_rfl) (by kernel_rfl) (fun _ _ _ h => h) (by rfl) (by (intro w' hw'; (try dsimp only at hw'); go_simp; try with_reducible rfl)) ?_
  try simp only [Act.put, List.setIfInBounds_toArray, List.set_cons_zero, List.set_cons_succ]
  refine H_take 4 hT rfl (by kernel_rfl) (by kernel_rfl) (by kernel_rfl) (fun _ _ _ h => h) (by rfl) (by (intro w' hw'; (try dsimp only at hw'); go_simp; try with_reducible rfl)) ?_
  try simp only [Act.put, List.setIfInBounds_toArray, List.set_cons_zero, List.set_cons_succ]
  refine H_take 5 hT rfl (by kernel_rfl) (by kernel_rfl) (by kernel_rfl) (fun _ _ _ h => h) (by rfl) (by (intro w' hw'; (try dsimp only at hw'); go_simp; try with_reducible rfl)) ?_
  try simp only [Act.put, List.setIfInBounds_toArray, List.set_cons_zero, List.set_cons_succ]
  refine H_take 6 hT rfl (by kernel_rfl) (by kernel_rfl) (by kernel_rfl) (fun _ _ _ h => h) (by rfl) (by (intro w' hw'; (try dsimp only at hw'); go_simp; try with_reducible rfl)) ?_
  try simp only [Act.put, List.setIfInBounds_toArray, List.set_cons_zero, List.set_cons_succ]
  refine H_one 7 rfl (by kernel_rfl) (fun K hK => ?_)
  rw [if_pos (by rfl)]
  go_simp
  have HPB := Lib.hid (show Bs w3.drew w.heap.size (.slice a zs.length zs.length) zs from .inr ⟨a, rfl, HZ.out.below hT.2.2.1, fun p hp => Nat.lt_of_lt_of_le (HP.out p hp) hT.2.2.1.size⟩)
  have hP1 := putOp1_c w.heap.size (.slice a zs.length zs.length) zs oc os_ on og om l (.slice va l.length vc) w3.drew hi hs HPB.out hT.2.2.1.size (by omega) (HV.out.below hT.2.2.1)
  rw [HVP.out] at hP1
  refine hP1.mono ?_
  rintro e w4 ⟨sl4, rfl, hap4⟩
  have hb4 : Below w3.drew.heap.size w3.drew w4 := by
    have hob : obk w.heap.size (.slice a zs.length zs.length) = none := by
      cases ho : obk w.heap.size (.slice a zs.length zs.length) with
      | none => rfl
      | some q =>
        obtain ⟨e1, e2⟩ := obk_some.1 ho
        cases a with
        | none => cases e1
        | some p => have := HP.out p rfl; have e3 : p.block = q := Option.some.inj e1; omega
    have hg := hap4.grew
    rw [hob] at hg
    exact ⟨hg.os, hg.tape, hg.output, hg.size, fun q hq => hg.block q hq (by simp)⟩
  have HB4 := Lib.hid hb4
  have HS4 := Lib.hid hap4.bs
  have hT4' := onb.keep hb4 hT.2
  refine hK _ _ ⟨hT4'.1.cells.1, hT4'⟩ (fun hT4 => ?_)
  clear hK hT hap4 hb4 hP1 hT4'
  try simp only [Act.put, List.setIfInBounds_toArray, List.set_cons_zero, List.set_cons_succ]
  refine H_take 8 hT4 rfl (by kernel_rfl) (by kernel_rfl) (by kernel_rfl) (fun _ _ _ h => h) (by rfl) (by (intro w' hw'; (try dsimp only at hw'); go_simp; try with_reducible rfl)) ?_
  try simp only [Act.put, List.setIfInBounds_toArray, List.set_cons_zero, List.set_cons_succ]
  refine H_take 9 hT4 rfl (by kernel_rfl) (by kernel_rfl) (by kernel_rfl) (fun _ _ _ h => h) (by rfl) (by (intro w' hw'; (try dsimp only at hw'); go_simp; try with_reducible rfl)) ?_
  try simp only [Act.put, List.setIfInBounds_toArray, List.set_cons_zero, List.set_cons_succ]
  refine H_take 10 hT4 rfl (by kernel_rfl) (by kernel_rfl) (by kernel_rfl) (fun _ _ _ h => h) (by rfl) (by (intro w' hw'; (try dsimp only at hw'); go_simp; try with_reducible rfl)) ?_
  try simp only [Act.put, List.setIfInBounds_toArray, List.set_cons_zero, List.set_cons_succ]
  refine H_take 11 hT4 rfl (by kernel_rfl) (by kernel_rfl) (by kernel_rfl) (fun _ _ _ h => h) (by rfl) (by (intro w' hw'; (try dsimp only at hw'); go_simp; try with_reducible rfl)) ?_
  try simp only [Act.put, List.setIfInBounds_toArray, List.set_cons_zero, List.set_cons_succ]
  refine H_take 12 hT4 rfl (by kernel_rfl) (by kernel_rfl) (by kernel_rfl) (fun _ _ _ h => h) (by rfl) (by (intro w' hw'; (try dsimp only at hw'); go_simp; try with_reducible rfl)) ?_
  try simp only [Act.put, List.setIfInBounds_toArray, List.set_cons_zero, List.set_cons_succ]
  refine wpAnyH_done (by kernel_rfl) ?_ _
  have H4 := Lib.hid hT4.2
  clear hT4 c0 c1 c2' c3 c4 c5 hsl
  obtain ⟨a3, c3, rfl, hl3, hc3, hbin3⟩ := (HF3.out.1.below (show Below w3.heap.size w3 w4 from ((Below.refl _ w3).drew).trans HB4.out)).binB (HZ.out.byt.append HBY.out) (by simp; omega)
  obtain ⟨a4, c4, rfl, _, _, hbin4⟩ := HS4.out.binB (HZ.out.byt.append HBY.out) (by simp; omega)
  have hcv1 := fun (w' : World) (hb : Below w4.heap.size w4 w') => run_convert_bin w' a3 (zs ++ bs).length c3 _ (hbin3.below hb) rfl
  have hcv2 := fun (w' : World) (hb : Below w4.heap.size w4 w') => run_convert_bin w' a4 (zs ++ bs).length c4 _ (hbin4.below hb) rfl
  have HZ3 := Lib.hid hbin3
  obtain ⟨a5, c5, ys, hys, hl5, hc5, hbin5, hsl5⟩ := sub_at a3 c3 (zs ++ bs) zs.length (by simp) hl3 hc3
  have hyb : ys = bs := by rw [hys]; simp
  have HZ5 := Lib.hid (hbin5 _ hbin3)
  subst hyb
  obtain ⟨b5, o5, rfl, _⟩ := HZ5.out 0 hbl
  have hln : (zs ++ ys).length = zs.length + ys.length := List.length_append
  generalize hN : (zs ++ ys).length = N at *
  have HN := Lib.hid hN
  have HLN := Lib.hid hln
  have hzN : (zs.length : Int) ≤ N := by omega
  clear hbin3 hbin4 hbin5 hys hN hln
  generalize txtB (zs ++ ys) = tx at hcv1 hcv2
  obtain ⟨⟨⟨c0, c1, c2'⟩, c3, c4, c5⟩, _, _⟩ := H4.out.1.cells
  go_wp2_with fail
  refine wp_region_held_drew (S := fun w' => (at6 w' w.heap.size oc os_ on og om (.slice va l.length vc) ∧ onb w w' oc os_ on og om (.slice va l.length vc)) ∧ Below w4.heap.size w4 w') (by kernel_rfl) ⟨⟨(onb.keep (Below.refl _ _).drew H4.out).1.cells.1, onb.keep (Below.refl _ _).drew H4.out⟩, (Below.refl _ _).drew⟩ (fun hT => ?_)
  refine H_take 0 hT rfl (by kernel_rfl) (by kernel_rfl) (by kernel_rfl) (fun _ _ _ h => h) (by rfl) (by (intro w' hw'; (try dsimp only at hw'); go_simp; try with_reducible rfl)) ?_
  try simp only [Act.put, List.setIfInBounds_toArray, List.set_cons_zero, List.set_cons_succ]
  refine H_take 1 hT rfl (by kernel_rfl) (by kernel_rfl) (by kernel_rfl) (fun _ _ _ h => h) (by rfl) (by (intro w' hw'; (try dsimp only at hw'); go_simp; try with_reducible rfl)) ?_
  try simp only [Act.put, List.setIfInBounds_toArray, List.set_cons_zero, List.set_cons_succ]
  refine H_take 2 hT rfl (by kernel_rfl) (by kernel_rfl) (by kernel_rfl) (fun _ _ _ h => h) (by rfl) (by (intro w' hw'; (try dsimp only at hw'); go_simp; try with_reducible rfl)) ?_
  try simp only [Act.put, List.setIfInBounds_toArray, List.set_cons_zero, List.set_cons_succ]
  refine H_take 3 hT rfl (by kernel_rfl) (by kernel_rfl) (by kernel_rfl) (fun _ _ _ h => h) (by rfl) (by (intro w' hw'; (try dsimp only at hw'); go_simp; try with_reducible rfl)) ?_
  try simp only [Act.put, List.setIfInBounds_toArray, List.set_cons_zero, List.set_cons_succ]
  refine H_take 4 hT rfl (by kernel_rfl) (by kernel_rfl) (by kernel_rfl) (fun _ _ _ h => h) (by rfl) (by (intro w' hw'; (try dsimp only at hw'); go_simp; try with_reducible rfl)) ?_
  try simp only [Act.put, List.setIfInBounds_toArray, List.set_cons_zero, List.set_cons_succ]
  refine H_take 5 hT rfl (by kernel_rfl) (by kernel_rfl) (by kernel_rfl) (fun _ _ _ h => h) (by rfl) (by (intro w' hw'; (try dsimp only at hw'); go_simp; first | (with_reducible rfl) | exact hcv1 w' hw'.2 | (rw [hcv1 w' hw'.2]; rfl) | (simp only [hcv1 w' hw'.2]; rfl))) ?_
  try simp only [Act.put, List.setIfInBounds_toArray, List.set_cons_zero, List.set_cons_succ]
  refine H_take 6 hT rfl (by kernel_rfl) (by kernel_rfl) (by kernel_rfl) (fun _ _ _ h => h) (by rfl) (by (intro w' hw'; (try dsimp only at hw'); go_simp; try with_reducible rfl)) ?_
  try simp only [Act.put, List.setIfInBounds_toArray, List.set_cons_zero, List.set_cons_succ]
  refine H_take 7 hT rfl (by kernel_rfl) (by kernel_rfl) (by kernel_rfl) (fun _ _ _ h => h) (by rfl) (by (intro w' hw'; (try dsimp only at hw'); go_simp; first | (with_reducible rfl) | exact hcv2 w' hw'.2 | (rw [hcv2 w' hw'.2]; rfl) | (simp only [hcv2 w' hw'.2]; rfl))) ?_
  try simp only [Act.put, List.setIfInBounds_toArray, List.set_cons_zero, List.set_cons_succ]
  refine H_take 8 hT rfl (by kernel_rfl) (by kernel_rfl) (by kernel_rfl) (fun _ _ _ h => h) (by rfl) (by (intro w' hw'; (try dsimp only at hw'); go_simp; try with_reducible rfl)) ?_
  try simp only [Act.put, List.setIfInBounds_toArray, List.set_cons_zero, List.set_cons_succ]
  refine H_take 9 hT rfl (by kernel_rfl) (by kernel_rfl) (by kernel_rfl) (fun _ _ _ h => h) (by rfl) (by (intro w' hw'; (try dsimp only at hw'); go_simp; try with_reducible rfl)) ?_
  try simp only [Act.put, List.setIfInBounds_toArray, List.set_cons_zero, List.set_cons_succ]
  refine H_take 10 hT rfl (by kernel_rfl) (by kernel_rfl) (by kernel_rfl) (fun _ _ _ h => h) (by rfl) (by (intro w' hw'; (try dsimp only at hw'); go_simp; try with_reducible rfl)) ?_
  try simp only [Act.put, List.setIfInBounds_toArray, List.set_cons_zero, List.set_cons_succ]
  refine H_take 11 hT rfl (by kernel_rfl) (by kernel_rfl) (by kernel_rfl) (fun _ _ _ h => h) (by rfl) (by (intro w' hw'; (try dsimp only at hw'); go_simp; try with_reducible rfl)) ?_
  try simp only [Act.put, List.setIfInBounds_toArray, List.set_cons_zero, List.set_cons_succ]
  refine H_take 13 hT rfl (by kernel_rfl) (by kernel_rfl) (by kernel_rfl) (fun _ _ _ h => h) (by rfl) (by (intro w' hw'; (try dsimp only at hw'); go_simp; try with_reducible rfl)) ?_
  try simp only [Act.put, List.setIfInBounds_toArray, List.set_cons_zero, List.set_cons_succ]
  refine H_one 12 rfl (by kernel_rfl) (fun K hK => ?_)
  rw [if_pos (by rfl)]
  go_simp
  refine (cleanO2_c oc os_ on og om l va vc _ _ (HV.out.below hT.1.2.2.1)).mono ?_
  rintro e v1 ⟨sa1, sc1, rfl, hvv1, hbb1⟩
  rw [HLC.out] at hvv1 ⊢
  have HV1 := Lib.hid hvv1
  have hT1' := onb.keep hbb1 hT.1.2
  refine hK _ _ ⟨⟨hT1'.1.cells.1, hT1'⟩, hT.2.trans (hbb1.mono hT.2.size)⟩ (fun hT1 => ?_)
  clear hK hT hbb1 hvv1 hT1'
  try simp only [Act.put, List.setIfInBounds_toArray, List.set_cons_zero, List.set_cons_succ]
  refine H_one 14 rfl (by kernel_rfl) (fun K hK => ?_)
  rw [if_pos (by rfl)]
  go_simp
  refine (cleanO1_c oc os_ on og om l va vc _ _ (HV.out.below hT1.1.2.2.1)).mono ?_
  rintro e v2 ⟨sa2, sc2, rfl, hvv2, hbb2⟩
  rw [HLC.out] at hvv2 ⊢
  have HV2 := Lib.hid hvv2
  have HV1b := Lib.hid (HV1.out.below hbb2)
  have hT2' := onb.keep hbb2 hT1.1.2
  refine hK _ _ ⟨⟨hT2'.1.cells.1, hT2'⟩, hT1.2.trans (hbb2.mono hT1.2.size)⟩ (fun hT2 => ?_)
  clear hK hT1 hbb2 hvv2 hT2'
  try simp only [Act.put, List.setIfInBounds_toArray, List.set_cons_zero, List.set_cons_succ]
  refine H_one 15 rfl (by kernel_rfl) (fun K hK => ?_)
  rw [if_pos (by rfl)]
  go_simp
  refine (op_c oc os_ on og om L _ oc os_ on og om L _ v2 _ _ HV1b.out HV2.out).mono ?_
  rintro e v3 ⟨rfl, hbb3⟩
  rw [sameO_self]
  have hT3' := onb.keep hbb3 hT2.1.2
  refine hK _ _ ⟨⟨hT3'.1.cells.1, hT3'⟩, hT2.2.trans (hbb3.mono hT2.2.size)⟩ (fun hT3 => ?_)
  clear hK hT2 hbb3 hT3'
  try simp only [Act.put, List.setIfInBounds_toArray, List.set_cons_zero, List.set_cons_succ]
  refine H_take 16 hT3 rfl (by kernel_rfl) (by kernel_rfl) (by kernel_rfl) (fun _ _ _ h => h) (by rfl) (by (intro w' hw'; (try dsimp only at hw'); go_simp; try with_reducible rfl)) ?_
  try simp only [Act.put, List.setIfInBounds_toArray, List.set_cons_zero, List.set_cons_succ]
  refine H_take 17 hT3 rfl (by kernel_rfl) (by kernel_rfl) (by kernel_rfl) (fun _ _ _ h => h) (by rfl) (by (intro w' hw'; (try dsimp only at hw'); go_simp; try with_reducible rfl)) ?_
  try simp only [Act.put, List.setIfInBounds_toArray, List.set_cons_zero, List.set_cons_succ]
  refine wpAnyH_done (by kernel_rfl) ?_ _
  have H5 := Lib.hid hT3.1.2
  have HB5 := Lib.hid hT3.2
  clear hT3 c0 c1 c2' c3 c4 c5 hcv1 hcv2
  have HBS4 := Lib.hid (show w.heap.size ≤ v3.heap.size from H5.out.2.1.size)
  have hbm := HZ2.out
  have HZ5b := Lib.hid (HZ5.out.below HB5.out)
  go_wp2_with (first | (at_builtin; (refine wpList_append_bsn _ rfl (.const (.slice none 0 0)) (.tmp 70) rfl w.heap.size ys rfl ⟨b5, o5, none⟩ ys.length c5 rfl rfl (HZ5b.out.cells ⟨b5, o5, none⟩ rfl) hbl (by omega) HBS4.out ?_; intro g cap w5 hap5)) | (at_builtin; (refine wpList_append_bs _ rfl (.tmp 71) (.tmp 72) rfl w.heap.size (.slice (some ⟨g, 0, none⟩) ys.length cap) ys ms rfl hap5.bs ⟨bm, om_, none⟩ ms.length c2 rfl rfl ((BIn.below hbm (H5.out.2.1.trans (apn_below HBS4.out hap5))).cells ⟨bm, om_, none⟩ rfl) hm (by omega) (Nat.le_trans HBS4.out hap5.grew.size) ?_; intro g2 cap2 w6 hap6)))
  have hbT := apn_below (Nat.le_refl _) (hap5.trans hap6)
  have hTT := (hap5.trans hap6).bs
  have hbyt : Byt (ys ++ ms) := (HBY.out : Byt _).append HZ2.out.byt
  obtain ⟨hn6, hl6, hc6, hbin6⟩ := hTT.at_ (by simp; omega) hbyt
  have H6 := Lib.hid (onb.keep hbT H5.out)
  have HZ6 := Lib.hid hbin6
  clear hbT hTT hbyt hbin6 hbm hsl5 H4 HB4 HS4 HF3 H3 H5 hap5 hap6
  refine (ReadO2_n (N := ys.length + ms.length) HRD.out hn6.symm ⟨by omega, hl6⟩ hc6 HZ6.out).mono ?_
  rintro e w7 ⟨sa7, sc7, rfl, hv7, hb7⟩
  dsimp only at hv7 ⊢
  have H7 := Lib.hid (onb.keep hb7 H6.out)
  have HAA := Lib.hid ((Below.refl w7.heap.size w7).alloc (Nat.le_refl _) (.cells #[.int .u32 oc, .int .u32 os_, .int .u16 on, .string og, .string om, .slice sa7 L.length sc7] 29))
  have H8 := Lib.hid (onb.keep HAA.out H7.out)
  have HQ8 := Lib.hid (ok6.cells (show ok6 (w7.alloc (.cells #[.int .u32 oc, .int .u32 os_, .int .u16 on, .string og, .string om, .slice sa7 L.length sc7] 29)) w7.heap.size oc os_ on og om (.slice sa7 L.length sc7) from block_alloc_at _ rfl)).1
  have HV8 := Lib.hid (hv7.below HAA.out)
  have hw1 : IntKind.i64.wrap ((N : Int) - (zs.length : Int)) = (ys.length : Int) := by
    have := HLN.out
    rw [show (N : Int) - (zs.length : Int) = (ys.length : Int) by omega]
    exact IntWalk.i64_in _ (by omega)
  clear hb7 hv7 H6 hn6 hl6 hc6
  go_wp2_with fail
  generalize w7.alloc _ = w8 at *
  refine wp_region_held_drew (S := fun w' => (at6 w' w.heap.size oc os_ on og om (.slice va l.length vc) ∧ onb w w' oc os_ on og om (.slice va l.length vc)) ∧ at6 w' w7.heap.size oc os_ on og om (.slice sa7 L.length sc7) ∧ Below w8.heap.size w8 w') (by kernel_rfl) ⟨⟨(onb.keep (Below.refl _ _).drew H8.out).1.cells.1, onb.keep (Below.refl _ _).drew H8.out⟩, at6.keep (Below.refl _ _).drew HQ8.out, (Below.refl _ _).drew⟩ (fun hT => ?_)
  refine H_take 0 hT rfl (by kernel_rfl) (by kernel_rfl) (by kernel_rfl) (fun _ _ _ h => h) (by rfl) (by (intro w' hw'; (try dsimp only at hw'); go_simp; try with_reducible rfl)) ?_
  try simp only [Act.put, List.setIfInBounds_toArray, List.set_cons_zero, List.set_cons_succ]
  refine H_take 1 hT rfl (by kernel_rfl) (by kernel_rfl) (by kernel_rfl) (fun _ _ _ h => h) (by rfl) (by (intro w' hw'; (try dsimp only at hw'); go_simp; try with_reducible rfl)) ?_
  try simp only [Act.put, List.setIfInBounds_toArray, List.set_cons_zero, List.set_cons_succ]
  refine H_take 2 hT rfl (by kernel_rfl) (by kernel_rfl) (by kernel_rfl) (fun _ _ _ h => h) (by rfl) (by (intro w' hw'; (try dsimp only at hw'); go_simp; try with_reducible rfl)) ?_
  try simp only [Act.put, List.setIfInBounds_toArray, List.set_cons_zero, List.set_cons_succ]
  refine H_take 3 hT rfl (by kernel_rfl) (by kernel_rfl) (by kernel_rfl) (fun _ _ _ h => h) (by rfl) (by (intro w' hw'; (try dsimp only at hw'); go_simp; try with_reducible rfl)) ?_
  try simp only [Act.put, List.setIfInBounds_toArray, List.set_cons_zero, List.set_cons_succ]
  refine H_take 4 hT rfl (by kernel_rfl) (by kernel_rfl) (by kernel_rfl) (fun _ _ _ h => h) (by rfl) (by (intro w' hw'; (try dsimp only at hw'); go_simp; try with_reducible rfl)) ?_
  try simp only [Act.put, List.setIfInBounds_toArray, List.set_cons_zero, List.set_cons_succ]
  refine H_take 5 hT rfl (by kernel_rfl) (by kernel_rfl) (by kernel_rfl) (fun _ _ _ h => h) (by rfl) (by (intro w' hw'; (try dsimp only at hw'); go_simp; try with_reducible rfl)) ?_
  try simp only [Act.put, List.setIfInBounds_toArray, List.set_cons_zero, List.set_cons_succ]
  refine H_take 6 hT rfl (by kernel_rfl) (by kernel_rfl) (by kernel_rfl) (fun _ _ _ h => h) (by rfl) (by (intro w' hw'; (try dsimp only at hw'); go_simp; try with_reducible rfl)) ?_
  try simp only [Act.put, List.setIfInBounds_toArray, List.set_cons_zero, List.set_cons_succ]
  refine H_take 7 hT rfl (by kernel_rfl) (by kernel_rfl) (by kernel_rfl) (fun _ _ _ h => h) (by rfl) (by (intro w' hw'; (try dsimp only at hw'); go_simp; try with_reducible rfl)) ?_
  try simp only [Act.put, List.setIfInBounds_toArray, List.set_cons_zero, List.set_cons_succ]
  refine H_take 8 hT rfl (by kernel_rfl) (by kernel_rfl) (by kernel_rfl) (fun _ _ _ h => h) (by rfl) (by (intro w' hw'; (try dsimp only at hw'); go_simp; try with_reducible rfl)) ?_
  try simp only [Act.put, List.setIfInBounds_toArray, List.set_cons_zero, List.set_cons_succ]
  refine H_take 9 hT rfl (by kernel_rfl) (by kernel_rfl) (by kernel_rfl) (fun _ _ _ h => h) (by rfl) (by (intro w' hw'; (try dsimp only at hw'); go_simp; try with_reducible rfl)) ?_
  try simp only [Act.put, List.setIfInBounds_toArray, List.set_cons_zero, List.set_cons_succ]
  refine H_take 10 hT rfl (by kernel_rfl) (by kernel_rfl) (by kernel_rfl) (fun _ _ _ h => h) (by rfl) (by (intro w' hw'; (try dsimp only at hw'); go_simp; try with_reducible rfl)) ?_
  try simp only [Act.put, List.setIfInBounds_toArray, List.set_cons_zero, List.set_cons_succ]
  refine H_take 11 hT rfl (by kernel_rfl) (by kernel_rfl) (by kernel_rfl) (fun _ _ _ h => h) (by rfl) (by (intro w' hw'; (try dsimp only at hw'); go_simp; try with_reducible rfl)) ?_
  try simp only [Act.put, List.setIfInBounds_toArray, List.set_cons_zero, List.set_cons_succ]
  refine H_take 12 hT rfl (by kernel_rfl) (by kernel_rfl) (by kernel_rfl) (fun _ _ _ h => h) (by rfl) (by (intro w' hw'; (try dsimp only at hw'); go_simp; try with_reducible rfl)) ?_
  try simp only [Act.put, List.setIfInBounds_toArray, List.set_cons_zero, List.set_cons_succ]
  refine H_take 13 hT rfl (by kernel_rfl) (by kernel_rfl) (by kernel_rfl) (fun _ _ _ h => h) (by rfl) (by (intro w' hw'; (try dsimp only at hw'); go_simp; try with_reducible rfl)) ?_
  try simp only [Act.put, List.setIfInBounds_toArray, List.set_cons_zero, List.set_cons_succ]
  refine H_one 14 rfl (by kernel_rfl) (fun K hK => ?_)
  rw [if_pos (by rfl)]
  go_simp
  refine (cleanO1_c oc os_ on og om l va vc _ _ (HV.out.below hT.1.2.2.1)).mono ?_
  rintro e w9 ⟨sa9, sc9, rfl, hv9, hb9⟩
  rw [HLC.out] at hv9 ⊢
  have HV9 := Lib.hid hv9
  have HV7b := Lib.hid ((HV8.out.below hT.2.2).below hb9)
  have hT9' := onb.keep hb9 hT.1.2
  refine hK _ _ ⟨⟨hT9'.1.cells.1, hT9'⟩, at6.keep hb9 hT.2.1, hT.2.2.trans (hb9.mono hT.2.2.size)⟩ (fun hT9 => ?_)
  clear hK hT hb9 hv9 hT9'
  try simp only [Act.put, List.setIfInBounds_toArray, List.set_cons_zero, List.set_cons_succ]
  refine H_one 15 rfl (by kernel_rfl) (fun K hK => ?_)
  rw [if_pos (by rfl)]
  go_simp
  refine (op_c oc os_ on og om L _ oc os_ on og om L _ w9 _ _ HV7b.out HV9.out).mono ?_
  rintro e w10 ⟨rfl, hb10⟩
  rw [sameO_self]
  have hT10' := onb.keep hb10 hT9.1.2
  refine hK _ _ ⟨⟨hT10'.1.cells.1, hT10'⟩, at6.keep hb10 hT9.2.1, hT9.2.2.trans (hb10.mono hT9.2.2.size)⟩ (fun hT10 => ?_)
  clear hK hT9 hb10 hT10'
  try simp only [Act.put, List.setIfInBounds_toArray, List.set_cons_zero, List.set_cons_succ]
  refine H_take 16 hT10 rfl (by kernel_rfl) (by kernel_rfl) (by kernel_rfl) (fun _ _ _ h => h) (by rfl) (by (intro w' hw'; (try dsimp only at hw'); go_simp; try with_reducible rfl)) ?_
  try simp only [Act.put, List.setIfInBounds_toArray, List.set_cons_zero, List.set_cons_succ]
  refine H_take 17 hT10 rfl (by kernel_rfl) (by kernel_rfl) (by kernel_rfl) (fun _ _ _ h => h) (by rfl) (by (intro w' hw'; (try dsimp only at hw'); go_simp; try with_reducible rfl)) ?_
  try simp only [Act.put, List.setIfInBounds_toArray, List.set_cons_zero, List.set_cons_succ]
  refine wpAnyH_done (by kernel_rfl) ?_ _
  have HEND := Lib.hid hT10.1.2.2.1
  clear hT10
  go_wp2_with fail
  go_ret
  exact ⟨rfl, HEND.out⟩

set_option maxHeartbeats 8000000 in
theorem callBack_ok0 (a : Option Addr) (c : Nat) (zs : List Int) (oc os_ on : Nat) (og om : ByteArray) (l : List V) (va : Option Addr) (vc : Nat) (a2 : Option Addr) (c2 : Nat) (ms : List Int) (w : World)
    (hl : zs.length ≤ c ∧ c ≤ 9223372036854775807) (hc : a = none → c = 0) (hz : BIn w a zs) (hp : ∀ p, a = some p → p.block < w.heap.size) (hl2 : ms.length ≤ c2 ∧ c2 ≤ 9223372036854775807) (hc2 : a2 = none → c2 = 0) (hz2 : BIn w a2 ms) (hi : oc < 4294967296 ∧ os_ < 4294967296 ∧ on < 65536) (hs : og.size ≤ 140737488351232 ∧ om.size ≤ 140737488351232)
    (hv : VIn (fun _ => True) w (VL l) (.slice va l.length vc)) (h : (decide (og.size ≤ 100) && (decide (om.size ≤ 100) && V.lights l)) = true) (h2 : (zs.length : Int) ≤ 100) (h3 : (ms.length : Int) ≤ 100) (bs : List Int) (L : List V) (hL : L = l.map V.clean) (hput : oput zs oc os_ on og om l = (zs ++ bs, 0)) (hby : Byt bs) (hbl : 0 < bs.length) (hbl2 : bs.length ≤ 200000) (hrd : oread (bs ++ ms) = (⟨oc, os_, on, og, om, L⟩, (bs.length : Int), 0)) (hm : ms = []) :
    Calls Try.prog 7 #[.slice a zs.length c, oval oc os_ on og om (.slice va l.length vc), .slice a2 ms.length c2] w fun e w' => e = .returned (.bool true) ∧ Below w.heap.size w w' := by
  subst hm
  simp only [List.length_nil]
  have HVP := Lib.hid hput
  have HBY := Lib.hid hby
  have HRD := Lib.hid hrd
  have HLC := Lib.hid hL.symm
  clear hput hby hrd hL
  have HZ := Lib.hid hz
  have HZ2 := Lib.hid hz2
  have HV := Lib.hid (show VIn (fun b => b < w.heap.size) w (VL l) (.slice va l.length vc) from hv.keep (fun _ _ _ => rfl) (fun b _ hlt => hlt))
  have HP := Lib.hid hp
  have HC := Lib.hid (And.intro hc hc2)
  have HAL := Lib.hid (onb.start0 (w0 := w) (c := oc) (s := os_) (n := on) (g := og) (m := om) (sl := .slice va l.length vc))
  clear hz hz2 hv hp hc hc2
  go_enter Try.func7, Try.ntmps7
  go_wp2_with fail
  refine (known6_c _).mono ?_
  rintro e w1 ⟨rfl, hb1⟩
  have H1 := Lib.hid (onb.keep hb1 HAL.out)
  obtain ⟨⟨⟨c0, c1, c2'⟩, c3, c4, c5⟩, _, _⟩ := H1.out.1.cells
  clear hb1
  go_wp2_with fail
  refine (lightop_c oc os_ on og om l _ w1 _ hs (HV.out.below H1.out.2.1)).mono ?_
  rintro e w2 ⟨rfl, hb2⟩
  have H2 := Lib.hid (onb.keep hb2 H1.out)
  clear hb2 c0 c1 c2' c3 c4 c5 H1 HAL
  rw [h]
  obtain ⟨⟨⟨c0, c1, c2'⟩, c3, c4, c5⟩, _, _⟩ := H2.out.1.cells
  go_wp2_with fail
  have hP2 := put2_op_c w.heap.size a c zs oc os_ on og om l (.slice va l.length vc) w2 hi hs (HZ.out.below H2.out.2.1) HC.out.1 hl.1 H2.out.2.1.size (by omega) (HV.out.below H2.out.2.1)
  rw [HVP.out] at hP2
  refine hP2.mono ?_
  rintro e w3 ⟨sl3, rfl, hbs3, hb3, hat3⟩
  have H3 := Lib.hid (onb.keep hb3 H2.out)
  have HF3 := Lib.hid (And.intro hbs3 hat3)
  clear hbs3 hb3 hat3 c0 c1 c2' c3 c4 c5 H2 hP2
  obtain ⟨⟨⟨c0, c1, c2'⟩, c3, c4, c5⟩, _, _⟩ := H3.out.1.cells
  have hsl := fun w => sub_full a zs.length c hl.1 w
  go_wp2_with fail
  refine wp_region_held_drew (S := fun w' => at6 w' w.heap.size oc os_ on og om (.slice va l.length vc) ∧ onb w w' oc os_ on og om (.slice va l.length vc)) (by kernel_rfl) ⟨(onb.keep (Below.refl _ _).drew H3.out).1.cells.1, onb.keep (Below.refl _ _).drew H3.out⟩ (fun hT => ?_)
  refine H_take 0 hT rfl (by kernel_rfl) (by kernel_rfl) (by kernel_rfl) (fun _ _ _ h => h) (by rfl) (by (intro w' hw'; (try dsimp only at hw'); go_simp; try with_reducible rfl)) ?_
  try simp only [Act.put, List.setIfInBounds_toArray, List.set_cons_zero, List.set_cons_succ]
  refine H_take 1 hT rfl (by kernel_rfl) (by kernel_rfl) (by kernel_rfl) (fun _ _ _ h => h) (by rfl) (by (intro w' hw'; (try dsimp only at hw'); go_simp; try with_reducible rfl)) ?_
  try simp only [Act.put, List.setIfInBounds_toArray, List.set_cons_zero, List.set_cons_succ]
  refine H_take 2 hT rfl (by kernel_rfl) (by kernel_rfl) (by kernel_rfl) (fun _ _ _ h => h) (by rfl) (by (intro w' hw'; (try dsimp only at hw'); go_simp; try with_reducible rfl)) ?_
  try simp only [Act.put, List.setIfInBounds_toArray, List.set_cons_zero, List.set_cons_succ]
  refine H_take 3 hT rfl (by kernel_rfl) (by kernel_rfl) (by kernel_rfl) (fun _ _ _ h => h) (by rfl) (by (intro w' hw'; (try dsimp only at hw'); go_simp; try with_reducible rfl)) ?_
  try simp only [Act.put, List.setIfInBounds_toArray, List.set_cons_zero, List.set_cons_succ]
  refine H_take 4 hT rfl (by kernel_rfl) (by kernel_rfl) (by kernel_rfl) (fun _ _ _ h => h) (by rfl) (by (intro w' hw'; (try dsimp only at hw'); go_simp; try with_reducible rfl)) ?_
  try simp only [Act.put, List.setIfInBounds_toArray, List.set_cons_zero, List.set_cons_succ]
  refine H_take 5 hT rfl (by kernel_rfl) (by kernel_rfl) (by kernel_rfl) (fun _ _ _ h => h) (by rfl) (by (intro w' hw'; (try dsimp only at hw'); go_simp; try with_reducible rfl)) ?_
  try simp only [Act.put, List.setIfInBounds_toArray, List.set_cons_zero, List.set_cons_succ]
  refine H_take 6 hT rfl (by kernel_rfl) (by kernel_rfl) (by kernel_rfl) (fun _ _ _ h => h) (by rfl) (by (intro w' hw'; (try dsimp only at hw'); go_simp; try with_reducible rfl)) ?_
  try simp only [Act.put, List.setIfInBounds_toArray, List.set_cons_zero, List.set_cons_succ]
  refine H_one 7 rfl (by kernel_rfl) (fun K hK => ?_)
  rw [if_pos (by rfl)]
  go_simp
  have HPB := Lib.hid (show Bs w3.drew w.heap.size (.slice a zs.length zs.length) zs from .inr ⟨a, rfl, HZ.out.below hT.2.2.1, fun p hp => Nat.lt_of_lt_of_le (HP.out p hp) hT.2.2.1.size⟩)
  have hP1 := putOp1_c w.heap.size (.slice a zs.length zs.length) zs oc os_ on og om l (.slice va l.length vc) w3.drew hi hs HPB.out hT.2.2.1.size (by omega) (HV.out.below hT.2.2.1)
  rw [HVP.out] at hP1
  refine hP1.mono ?_
  rintro e w4 ⟨sl4, rfl, hap4⟩
  have hb4 : Below w3.drew.heap.size w3.drew w4 := by
    have hob : obk w.heap.size (.slice a zs.length zs.length) = none := by
      cases ho : obk w.heap.size (.slice a zs.length zs.length) with
      | none => rfl
      | some q =>
        obtain ⟨e1, e2⟩ := obk_some.1 ho
        cases a with
        | none => cases e1
        | some p => have := HP.out p rfl; have e3 : p.block = q := Option.some.inj e1; omega
    have hg := hap4.grew
    rw [hob] at hg
    exact ⟨hg.os, hg.tape, hg.output, hg.size, fun q hq => hg.block q hq (by simp)⟩
  have HB4 := Lib.hid hb4
  have HS4 := Lib.hid hap4.bs
  have hT4' := onb.keep hb4 hT.2
  refine hK _ _ ⟨hT4'.1.cells.1, hT4'⟩ (fun hT4 => ?_)
  clear hK hT hap4 hb4 hP1 hT4'
  try simp only [Act.put, List.setIfInBounds_toArray, List.set_cons_zero, List.set_cons_succ]
  refine H_take 8 hT4 rfl (by kernel_rfl) (by kernel_rfl) (by kernel_rfl) (fun _ _ _ h => h) (by rfl) (by (intro w' hw'; (try dsimp only at hw'); go_simp; try with_reducible rfl)) ?_
  try simp only [Act.put, List.setIfInBounds_toArray, List.set_cons_zero, List.set_cons_succ]
  refine H_take 9 hT4 rfl (by kernel_rfl) (by kernel_rfl) (by kernel_rfl) (fun _ _ _ h => h) (by rfl) (by (intro w' hw'; (try dsimp only at hw'); go_simp; try with_reducible rfl)) ?_
  try simp only [Act.put, List.setIfInBounds_toArray, List.set_cons_zero, List.set_cons_succ]
  refine H_take 10 hT4 rfl (by kernel_rfl) (by kernel_rfl) (by kernel_rfl) (fun _ _ _ h => h) (by rfl) (by (intro w' hw'; (try dsimp only at hw'); go_simp; try with_reducible rfl)) ?_
  try simp only [Act.put, List.setIfInBounds_toArray, List.set_cons_zero, List.set_cons_succ]
  refine H_take 11 hT4 rfl (by kernel_rfl) (by kernel_rfl) (by kernel_rfl) (fun _ _ _ h => h) (by rfl) (by (intro w' hw'; (try dsimp only at hw'); go_simp; try with_reducible rfl)) ?_
  try simp only [Act.put, List.setIfInBounds_toArray, List.set_cons_zero, List.set_cons_succ]
  refine H_take 12 hT4 rfl (by kernel_rfl) (by kernel_rfl) (by kernel_rfl) (fun _ _ _ h => h) (by rfl) (by (intro w' hw'; (try dsimp only at hw'); go_simp; try with_reducible rfl)) ?_
  try simp only [Act.put, List.setIfInBounds_toArray, List.set_cons_zero, List.set_cons_succ]
  refine wpAnyH_done (by kernel_rfl) ?_ _
  have H4 := Lib.hid hT4.2
  clear hT4 c0 c1 c2' c3 c4 c5 hsl
  obtain ⟨a3, c3, rfl, hl3, hc3, hbin3⟩ := (HF3.out.1.below (show Below w3.heap.size w3 w4 from ((Below.refl _ w3).drew).trans HB4.out)).binB (HZ.out.byt.append HBY.out) (by simp; omega)
  obtain ⟨a4, c4, rfl, _, _, hbin4⟩ := HS4.out.binB (HZ.out.byt.append HBY.out) (by simp; omega)
  have hcv1 := fun (w' : World) (hb : Below w4.heap.size w4 w') => run_convert_bin w' a3 (zs ++ bs).length c3 _ (hbin3.below hb) rfl
  have hcv2 := fun (w' : World) (hb : Below w4.heap.size w4 w') => run_convert_bin w' a4 (zs ++ bs).length c4 _ (hbin4.below hb) rfl
  have HZ3 := Lib.hid hbin3
  obtain ⟨a5, c5, ys, hys, hl5, hc5, hbin5, hsl5⟩ := sub_at a3 c3 (zs ++ bs) zs.length (by simp) hl3 hc3
  have hyb : ys = bs := by rw [hys]; simp
  have HZ5 := Lib.hid (hbin5 _ hbin3)
  subst hyb
  obtain ⟨b5, o5, rfl, _⟩ := HZ5.out 0 hbl
  have hln : (zs ++ ys).length = zs.length + ys.length := List.length_append
  generalize hN : (zs ++ ys).length = N at *
  have HN := Lib.hid hN
  have HLN := Lib.hid hln
  have hzN : (zs.length : Int) ≤ N := by omega
  clear hbin3 hbin4 hbin5 hys hN hln
  generalize txtB (zs ++ ys) = tx at hcv1 hcv2
  obtain ⟨⟨⟨c0, c1, c2'⟩, c3, c4, c5⟩, _, _⟩ := H4.out.1.cells
  go_wp2_with fail
  refine wp_region_held_drew (S := fun w' => (at6 w' w.heap.size oc os_ on og om (.slice va l.length vc) ∧ onb w w' oc os_ on og om (.slice va l.length vc)) ∧ Below w4.heap.size w4 w') (by kernel_rfl) ⟨⟨(onb.keep (Below.refl _ _).drew H4.out).1.cells.1, onb.keep (Below.refl _ _).drew H4.out⟩, (Below.refl _ _).drew⟩ (fun hT => ?_)
  refine H_take 0 hT rfl (by kernel_rfl) (by kernel_rfl) (by kernel_rfl) (fun _ _ _ h => h) (by rfl) (by (intro w' hw'; (try dsimp only at hw'); go_simp; try with_reducible rfl)) ?_
  try simp only [Act.put, List.setIfInBounds_toArray, List.set_cons_zero, List.set_cons_succ]
  refine H_take 1 hT rfl (by kernel_rfl) (by kernel_rfl) (by kernel_rfl) (fun _ _ _ h => h) (by rfl) (by (intro w' hw'; (try dsimp only at hw'); go_simp; try with_reducible rfl)) ?_
  try simp only [Act.put, List.setIfInBounds_toArray, List.set_cons_zero, List.set_cons_succ]
  refine H_take 2 hT rfl (by kernel_rfl) (by kernel_rfl) (by kernel_rfl) (fun _ _ _ h => h) (by rfl) (by (intro w' hw'; (try dsimp only at hw'); go_simp; try with_reducible rfl)) ?_
  try simp only [Act.put, List.setIfInBounds_toArray, List.set_cons_zero, List.set_cons_succ]
  refine H_take 3 hT rfl (by kernel_rfl) (by kernel_rfl) (by kernel_rfl) (fun _ _ _ h => h) (by rfl) (by (intro w' hw'; (try dsimp only at hw'); go_simp; try with_reducible rfl)) ?_
  try simp only [Act.put, List.setIfInBounds_toArray, List.set_cons_zero, List.set_cons_succ]
  refine H_take 4 hT rfl (by kernel_rfl) (by kernel_rfl) (by kernel_rfl) (fun _ _ _ h => h) (by rfl) (by (intro w' hw'; (try dsimp only at hw'); go_simp; try with_reducible rfl)) ?_
  try simp only [Act.put, List.setIfInBounds_toArray, List.set_cons_zero, List.set_cons_succ]
  refine H_take 5 hT rfl (by kernel_rfl) (by kernel_rfl) (by kernel_rfl) (fun _ _ _ h => h) (by rfl) (by (intro w' hw'; (try dsimp only at hw'); go_simp; first | (with_reducible rfl) | exact hcv1 w' hw'.2 | (rw [hcv1 w' hw'.2]; rfl) | (simp only [hcv1 w' hw'.2]; rfl))) ?_
  try simp only [Act.put, List.setIfInBounds_toArray, List.set_cons_zero, List.set_cons_succ]
  refine H_take 6 hT rfl (by kernel_rfl) (by kernel_rfl) (by kernel_rfl) (fun _ _ _ h => h) (by rfl) (by (intro w' hw'; (try dsimp only at hw'); go_simp; try with_reducible rfl)) ?_
  try simp only [Act.put, List.setIfInBounds_toArray, List.set_cons_zero, List.set_cons_succ]
  refine H_take 7 hT rfl (by kernel_rfl) (by kernel_rfl) (by kernel_rfl) (fun _ _ _ h => h) (by rfl) (by (intro w' hw'; (try dsimp only at hw'); go_simp; first | (with_reducible rfl) | exact hcv2 w' hw'.2 | (rw [hcv2 w' hw'.2]; rfl) | (simp only [hcv2 w' hw'.2]; rfl))) ?_
  try simp only [Act.put, List.setIfInBounds_toArray, List.set_cons_zero, List.set_cons_succ]
  refine H_take 8 hT rfl (by kernel_rfl) (by kernel_rfl) (by kernel_rfl) (fun _ _ _ h => h) (by rfl) (by (intro w' hw'; (try dsimp only at hw'); go_simp; try with_reducible rfl)) ?_
  try simp only [Act.put, List.setIfInBounds_toArray, List.set_cons_zero, List.set_cons_succ]
  refine H_take 9 hT rfl (by kernel_rfl) (by kernel_rfl) (by kernel_rfl) (fun _ _ _ h => h) (by rfl) (by (intro w' hw'; (try dsimp only at hw'); go_simp; try with_reducible rfl)) ?_
  try simp only [Act.put, List.setIfInBounds_toArray, List.set_cons_zero, List.set_cons_succ]
  refine H_take 10 hT rfl (by kernel_rfl) (by kernel_rfl) (by kernel_rfl) (fun _ _ _ h => h) (by rfl) (by (intro w' hw'; (try dsimp only at hw'); go_simp; try with_reducible rfl)) ?_
  try simp only [Act.put, List.setIfInBounds_toArray, List.set_cons_zero, List.set_cons_succ]
  refine H_take 11 hT rfl (by kernel_rfl) (by kernel_rfl) (by kernel_rfl) (fun _ _ _ h => h) (by rfl) (by (intro w' hw'; (try dsimp only at hw'); go_simp; try with_reducible rfl)) ?_
  try simp only [Act.put, List.setIfInBounds_toArray, List.set_cons_zero, List.set_cons_succ]
  refine H_take 13 hT rfl (by kernel_rfl) (by kernel_rfl) (by kernel_rfl) (fun _ _ _ h => h) (by rfl) (by (intro w' hw'; (try dsimp only at hw'); go_simp; try with_reducible rfl)) ?_
  try simp only [Act.put, List.setIfInBounds_toArray, List.set_cons_zero, List.set_cons_succ]
  refine H_one 12 rfl (by kernel_rfl) (fun K hK => ?_)
  rw [if_pos (by rfl)]
  go_simp
  refine (cleanO2_c oc os_ on og om l va vc _ _ (HV.out.below hT.1.2.2.1)).mono ?_
  rintro e v1 ⟨sa1, sc1, rfl, hvv1, hbb1⟩
  rw [HLC.out] at hvv1 ⊢
  have HV1 := Lib.hid hvv1
  have hT1' := onb.keep hbb1 hT.1.2
  refine hK _ _ ⟨⟨hT1'.1.cells.1, hT1'⟩, hT.2.trans (hbb1.mono hT.2.size)⟩ (fun hT1 => ?_)
  clear hK hT hbb1 hvv1 hT1'
  try simp only [Act.put, List.setIfInBounds_toArray, List.set_cons_zero, List.set_cons_succ]
  refine H_one 14 rfl (by kernel_rfl) (fun K hK => ?_)
  rw [if_pos (by rfl)]
  go_simp
  refine (cleanO1_c oc os_ on og om l va vc _ _ (HV.out.below hT1.1.2.2.1)).mono ?_
  rintro e v2 ⟨sa2, sc2, rfl, hvv2, hbb2⟩
  rw [HLC.out] at hvv2 ⊢
  have HV2 := Lib.hid hvv2
  have HV1b := Lib.hid (HV1.out.below hbb2)
  have hT2' := onb.keep hbb2 hT1.1.2
  refine hK _ _ ⟨⟨hT2'.1.cells.1, hT2'⟩, hT1.2.trans (hbb2.mono hT1.2.size)⟩ (fun hT2 => ?_)
  clear hK hT1 hbb2 hvv2 hT2'
  try simp only [Act.put, List.setIfInBounds_toArray, List.set_cons_zero, List.set_cons_succ]
  refine H_one 15 rfl (by kernel_rfl) (fun K hK => ?_)
  rw [if_pos (by rfl)]
  go_simp
  refine (op_c oc os_ on og om L _ oc os_ on og om L _ v2 _ _ HV1b.out HV2.out).mono ?_
  rintro e v3 ⟨rfl, hbb3⟩
  rw [sameO_self]
  have hT3' := onb.keep hbb3 hT2.1.2
  refine hK _ _ ⟨⟨hT3'.1.cells.1, hT3'⟩, hT2.2.trans (hbb3.mono hT2.2.size)⟩ (fun hT3 => ?_)
  clear hK hT2 hbb3 hT3'
  try simp only [Act.put, List.setIfInBounds_toArray, List.set_cons_zero, List.set_cons_succ]
  refine H_take 16 hT3 rfl (by kernel_rfl) (by kernel_rfl) (by kernel_rfl) (fun _ _ _ h => h) (by rfl) (by (intro w' hw'; (try dsimp only at hw'); go_simp; try with_reducible rfl)) ?_
  try simp only [Act.put, List.setIfInBounds_toArray, List.set_cons_zero, List.set_cons_succ]
  refine H_take 17 hT3 rfl (by kernel_rfl) (by kernel_rfl) (by kernel_rfl) (fun _ _ _ h => h) (by rfl) (by (intro w' hw'; (try dsimp only at hw'); go_simp; try with_reducible rfl)) ?_
  try simp only [Act.put, List.setIfInBounds_toArray, List.set_cons_zero, List.set_cons_succ]
  refine wpAnyH_done (by kernel_rfl) ?_ _
  have H5 := Lib.hid hT3.1.2
  have HB5 := Lib.hid hT3.2
  clear hT3 c0 c1 c2' c3 c4 c5 hcv1 hcv2
  have HBS4 := Lib.hid (show w.heap.size ≤ v3.heap.size from H5.out.2.1.size)
  have hbm := HZ2.out
  have HZ5b := Lib.hid (HZ5.out.below HB5.out)
  go_wp2_with (first | (at_builtin; (refine wpList_append_bsn _ rfl (.const (.slice none 0 0)) (.tmp 70) rfl w.heap.size ys rfl ⟨b5, o5, none⟩ ys.length c5 rfl rfl (HZ5b.out.cells ⟨b5, o5, none⟩ rfl) hbl (by omega) HBS4.out ?_; intro g cap w5 hap5)) | (at_builtin; (refine wpList_append_bs0 _ rfl (.tmp 71) (.tmp 72) rfl w.heap.size (.slice (some ⟨g, 0, none⟩) ys.length cap) ys rfl hap5.bs (by omega) a2 c2 rfl ?_)))
  have hbT := apn_below (Nat.le_refl _) ((by simpa using hap5 : Ap v3 w5 w.heap.size (.slice none 0 0) (.slice (some ⟨g, 0, none⟩) ys.length cap) (ys ++ [])))
  have hTT := ((by simpa using hap5 : Ap v3 w5 w.heap.size (.slice none 0 0) (.slice (some ⟨g, 0, none⟩) ys.length cap) (ys ++ []))).bs
  have hbyt : Byt (ys ++ ([] : List Int)) := (HBY.out : Byt _).append HZ2.out.byt
  obtain ⟨hn6, hl6, hc6, hbin6⟩ := hTT.at_ (by simp; omega) hbyt
  have H6 := Lib.hid (onb.keep hbT H5.out)
  have HZ6 := Lib.hid hbin6
  clear hbT hTT hbyt hbin6 hbm hsl5 H4 HB4 HS4 HF3 H3 H5 hap5
  refine (ReadO2_n (N := ys.length) HRD.out hn6.symm ⟨by omega, hl6⟩ hc6 HZ6.out).mono ?_
  rintro e w7 ⟨sa7, sc7, rfl, hv7, hb7⟩
  dsimp only at hv7 ⊢
  have H7 := Lib.hid (onb.keep hb7 H6.out)
  have HAA := Lib.hid ((Below.refl w7.heap.size w7).alloc (Nat.le_refl _) (.cells #[.int .u32 oc, .int .u32 os_, .int .u16 on, .string og, .string om, .slice sa7 L.length sc7] 29))
  have H8 := Lib.hid (onb.keep HAA.out H7.out)
  have HQ8 := Lib.hid (ok6.cells (show ok6 (w7.alloc (.cells #[.int .u32 oc, .int .u32 os_, .int .u16 on, .string og, .string om, .slice sa7 L.length sc7] 29)) w7.heap.size oc os_ on og om (.slice sa7 L.length sc7) from block_alloc_at _ rfl)).1
  have HV8 := Lib.hid (hv7.below HAA.out)
  have hw1 : IntKind.i64.wrap ((N : Int) - (zs.length : Int)) = (ys.length : Int) := by
    have := HLN.out
    rw [show (N : Int) - (zs.length : Int) = (ys.length : Int) by omega]
    exact IntWalk.i64_in _ (by omega)
  clear hb7 hv7 H6 hn6 hl6 hc6
  go_wp2_with fail
  generalize w7.alloc _ = w8 at *
  refine wp_region_held_drew (S := fun w' => (at6 w' w.heap.size oc os_ on og om (.slice va l.length vc) ∧ onb w w' oc os_ on og om (.slice va l.length vc)) ∧ at6 w' w7.heap.size oc os_ on og om (.slice sa7 L.length sc7) ∧ Below w8.heap.size w8 w') (by kernel_rfl) ⟨⟨(onb.keep (Below.refl _ _).drew H8.out).1.cells.1, onb.keep (Below.refl _ _).drew H8.out⟩, at6.keep (Below.refl _ _).drew HQ8.out, (Below.refl _ _).drew⟩ (fun hT => ?_)
  refine H_take 0 hT rfl (by kernel_rfl) (by kernel_rfl) (by kernel_rfl) (fun _ _ _ h => h) (by rfl) (by (intro w' hw'; (try dsimp only at hw'); go_simp; try with_reducible rfl)) ?_
  try simp only [Act.put, List.setIfInBounds_toArray, List.set_cons_zero, List.set_cons_succ]
  refine H_take 1 hT rfl (by kernel_rfl) (by kernel_rfl) (by kernel_rfl) (fun _ _ _ h => h) (by rfl) (by (intro w' hw'; (try dsimp only at hw'); go_simp; try with_reducible rfl)) ?_
  try simp only [Act.put, List.setIfInBounds_toArray, List.set_cons_zero, List.set_cons_succ]
  refine H_take 2 hT rfl (by kernel_rfl) (by kernel_rfl) (by kernel_rfl) (fun _ _ _ h => h) (by rfl) (by (intro w' hw'; (try dsimp only at hw'); go_simp; try with_reducible rfl)) ?_
  try simp only [Act.put, List.setIfInBounds_toArray, List.set_cons_zero, List.set_cons_succ]
  refine H_take 3 hT rfl (by kernel_rfl) (by kernel_rfl) (by kernel_rfl) (fun _ _ _ h => h) (by rfl) (by (intro w' hw'; (try dsimp only at hw'); go_simp; try with_reducible rfl)) ?_
  try simp only [Act.put, List.setIfInBounds_toArray, List.set_cons_zero, List.set_cons_succ]
  refine H_take 4 hT rfl (by kernel_rfl) (by kernel_rfl) (by kernel_rfl) (fun _ _ _ h => h) (by rfl) (by (intro w' hw'; (try dsimp only at hw'); go_simp; try with_reducible rfl)) ?_
  try simp only [Act.put, List.setIfInBounds_toArray, List.set_cons_zero, List.set_cons_succ]
  refine H_take 5 hT rfl (by kernel_rfl) (by kernel_rfl) (by kernel_rfl) (fun _ _ _ h => h) (by rfl) (by (intro w' hw'; (try dsimp only at hw'); go_simp; try with_reducible rfl)) ?_
  try simp only [Act.put, List.setIfInBounds_toArray, List.set_cons_zero, List.set_cons_succ]
  refine H_take 6 hT rfl (by kernel_rfl) (by kernel_rfl) (by kernel_rfl) (fun _ _ _ h => h) (by rfl) (by (intro w' hw'; (try dsimp only at hw'); go_simp; try with_reducible rfl)) ?_
  try simp only [Act.put, List.setIfInBounds_toArray, List.set_cons_zero, List.set_cons_succ]
  refine H_take 7 hT rfl (by kernel_rfl) (by kernel_rfl) (by kernel_rfl) (fun _ _ _ h => h) (by rfl) (by (intro w' hw'; (try dsimp only at hw'); go_simp; try with_reducible rfl)) ?_
  try simp only [Act.put, List.setIfInBounds_toArray, List.set_cons_zero, List.set_cons_succ]
  refine H_take 8 hT rfl (by kernel_rfl) (by kernel_rfl) (by kernel_rfl) (fun _ _ _ h => h) (by rfl) (by (intro w' hw'; (try dsimp only at hw'); go_simp; try with_reducible rfl)) ?_
  try simp only [Act.put, List.setIfInBounds_toArray, List.set_cons_zero, List.set_cons_succ]
  refine H_take 9 hT rfl (by kernel_rfl) (by kernel_rfl) (by kernel_rfl) (fun _ _ _ h => h) (by rfl) (by (intro w' hw'; (try dsimp only at hw'); go_simp; try with_reducible rfl)) ?_
  try simp only [Act.put, List.setIfInBounds_toArray, List.set_cons_zero, List.set_cons_succ]
  refine H_take 10 hT rfl (by kernel_rfl) (by kernel_rfl) (by kernel_rfl) (fun _ _ _ h => h) (by rfl) (by (intro w' hw'; (try dsimp only at hw'); go_simp; try with_reducible rfl)) ?_
  try simp only [Act.put, List.setIfInBounds_toArray, List.set_cons_zero, List.set_cons_succ]
  refine H_take 11 hT rfl (by kernel_rfl) (by kernel_rfl) (by kernel_rfl) (fun _ _ _ h => h) (by rfl) (by (intro w' hw'; (try dsimp only at hw'); go_simp; try with_reducible rfl)) ?_
  try simp only [Act.put, List.setIfInBounds_toArray, List.set_cons_zero, List.set_cons_succ]
  refine H_take 12 hT rfl (by kernel_rfl) (by kernel_rfl) (by kernel_rfl) (fun _ _ _ h => h) (by rfl) (by (intro w' hw'; (try dsimp only at hw'); go_simp; try with_reducible rfl)) ?_
  try simp only [Act.put, List.setIfInBounds_toArray, List.set_cons_zero, List.set_cons_succ]
  refine H_take 13 hT rfl (by kernel_rfl) (by kernel_rfl) (by kernel_rfl) (fun _ _ _ h => h) (by rfl) (by (intro w' hw'; (try dsimp only at hw'); go_simp; try with_reducible rfl)) ?_
  try simp only [Act.put, List.setIfInBounds_toArray, List.set_cons_zero, List.set_cons_succ]
  refine H_one 14 rfl (by kernel_rfl) (fun K hK => ?_)
  rw [if_pos (by rfl)]
  go_simp
  refine (cleanO1_c oc os_ on og om l va vc _ _ (HV.out.below hT.1.2.2.1)).mono ?_
  rintro e w9 ⟨sa9, sc9, rfl, hv9, hb9⟩
  rw [HLC.out] at hv9 ⊢
  have HV9 := Lib.hid hv9
  have HV7b := Lib.hid ((HV8.out.below hT.2.2).below hb9)
  have hT9' := onb.keep hb9 hT.1.2
  refine hK _ _ ⟨⟨hT9'.1.cells.1, hT9'⟩, at6.keep hb9 hT.2.1, hT.2.2.trans (hb9.mono hT.2.2.size)⟩ (fun hT9 => ?_)
  clear hK hT hb9 hv9 hT9'
  try simp only [Act.put, List.setIfInBounds_toArray, List.set_cons_zero, List.set_cons_succ]
  refine H_one 15 rfl (by kernel_rfl) (fun K hK => ?_)
  rw [if_pos (by rfl)]
  go_simp
  refine (op_c oc os_ on og om L _ oc os_ on og om L _ w9 _ _ HV7b.out HV9.out).mono ?_
  rintro e w10 ⟨rfl, hb10⟩
  rw [sameO_self]
  have hT10' := onb.keep hb10 hT9.1.2
  refine hK _ _ ⟨⟨hT10'.1.cells.1, hT10'⟩, at6.keep hb10 hT9.2.1, hT9.2.2.trans (hb10.mono hT9.2.2.size)⟩ (fun hT10 => ?_)
  clear hK hT9 hb10 hT10'
  try simp only [Act.put, List.setIfInBounds_toArray, List.set_cons_zero, List.set_cons_succ]
  refine H_take 16 hT10 rfl (by kernel_rfl) (by kernel_rfl) (by kernel_rfl) (fun _ _ _ h => h) (by rfl) (by (intro w' hw'; (try dsimp only at hw'); go_simp; try with_reducible rfl)) ?_
  try simp only [Act.put, List.setIfInBounds_toArray, List.set_cons_zero, List.set_cons_succ]
  refine H_take 17 hT10 rfl (by kernel_rfl) (by kernel_rfl) (by kernel_rfl) (fun _ _ _ h => h) (by rfl) (by (intro w' hw'; (try dsimp only at hw'); go_simp; try with_reducible rfl)) ?_
  try simp only [Act.put, List.setIfInBounds_toArray, List.set_cons_zero, List.set_cons_succ]
  refine wpAnyH_done (by kernel_rfl) ?_ _
  have HEND := Lib.hid hT10.1.2.2.1
  clear hT10
  go_wp2_with fail
  go_ret
  exact ⟨rfl, HEND.out⟩

theorem callBack_c (a : Option Addr) (c : Nat) (zs : List Int) (oc os_ on : Nat) (og om : ByteArray) (l : List V) (va : Option Addr) (vc : Nat) (a2 : Option Addr) (c2 : Nat) (ms : List Int) (w : World)
    (hl : zs.length ≤ c ∧ c ≤ 9223372036854775807) (hc : a = none → c = 0) (hz : BIn w a zs) (hp : ∀ p, a = some p → p.block < w.heap.size) (hl2 : ms.length ≤ c2 ∧ c2 ≤ 9223372036854775807) (hc2 : a2 = none → c2 = 0) (hz2 : BIn w a2 ms) (hi : oc < 4294967296 ∧ os_ < 4294967296 ∧ on < 65536) (hs : og.size ≤ 140737488351232 ∧ om.size ≤ 140737488351232)
    (hv : VIn (fun _ => True) w (VL l) (.slice va l.length vc)) :
    Calls Try.prog 7 #[.slice a zs.length c, oval oc os_ on og om (.slice va l.length vc), .slice a2 ms.length c2] w fun e w' => e = .returned (.bool true) ∧ Below w.heap.size w w' := by
  cases h : (decide (og.size ≤ 100) && (decide (om.size ≤ 100) && V.lights l)) with
  | false => exact callBack_light a c zs oc os_ on og om l va vc a2 c2 ms w hl hc hz hp hl2 hc2 hz2 hi hs hv h
  | true =>
    by_cases h2 : (100 : Int) < zs.length
    · exact callBack_long a c zs oc os_ on og om l va vc a2 c2 ms w hl hc hz hp hl2 hc2 hz2 hi hs hv h h2
    by_cases h3 : (100 : Int) < ms.length
    · exact callBack_long2 a c zs oc os_ on og om l va vc a2 c2 ms w hl hc hz hp hl2 hc2 hz2 hi hs hv h (by omega) h3
    by_cases hbig : 16 < l.length ∨ 32 < og.size ∨ 32 < om.size
    · exact callBack_err a c zs oc os_ on og om l va vc a2 c2 ms w hl hc hz hp hl2 hc2 hz2 hi hs hv h (by omega) (by omega) 22 (by decide) (oput_big hbig)
    · by_cases hk : chk l = 0
      · have hput : oput zs oc os_ on og om l = (zs ++ obytes oc os_ on og om l, 0) := by unfold oput; rw [if_neg hbig, if_pos hk]
        have hf := flatB_len hk
        have hlen : (obytes oc os_ on og om l).length = 10 + (2 + og.size) + (2 + om.size) + 1 + (l.flatMap V.bytes).length := by
          simp only [obytes, List.length_append, List.length_cons, txtP_length, idB_length]; omega
        have hby : Byt (obytes oc os_ on og om l) := by
          unfold obytes idB txtP
          exact (((beB_byt _ _).append (beB_byt _ _)).append (beB_byt _ _)).append (((beB_byt _ _).append (strI_byte _)).append (((beB_byt _ _).append (strI_byte _)).append ((Byt.one (z := (l.length : Int)) (by omega)).append (flatB_byt hk))))
        have hok : ∀ t ∈ l, V.Ok t := (hv.ok.parts).2.2
        have hrd : oread (obytes oc os_ on og om l ++ ms) = (⟨oc, os_, on, og, om, l.map V.clean⟩, ((obytes oc os_ on og om l).length : Int), 0) := oread_yes (ord_put hi (by omega) (by omega) (by omega) hk hok ms)
        by_cases hm : ms = []
        · exact callBack_ok0 a c zs oc os_ on og om l va vc a2 c2 ms w hl hc hz hp hl2 hc2 hz2 hi hs hv h (by omega) (by omega) _ _ rfl hput hby (by omega) (by omega) hrd hm
        · have hpos : 0 < ms.length := List.length_pos_iff.2 hm
          obtain ⟨bm, om_, ha2, _⟩ := hz2 0 hpos
          exact callBack_ok a c zs oc os_ on og om l va vc a2 c2 ms w hl hc hz hp hl2 hc2 hz2 hi hs hv h (by omega) (by omega) _ _ rfl hput hby (by omega) (by omega) hrd bm om_ ha2 hpos
      · exact callBack_err a c zs oc os_ on og om l va vc a2 c2 ms w hl hc hz hp hl2 hc2 hz2 hi hs hv h (by omega) (by omega) _ hk (by unfold oput; rw [if_neg hbig, if_neg hk])
end Go.Proofs.Ytkhgbbloeeaceaa
