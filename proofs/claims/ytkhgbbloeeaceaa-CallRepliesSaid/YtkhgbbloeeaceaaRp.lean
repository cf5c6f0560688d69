/- CallReplies: the walk. -/
import Derived.Test.YtkhgbbloeeaceaaCr
namespace Go.Proofs.Ytkhgbbloeeaceaa
open Go Go.RowKit
set_option maxRecDepth 16000
attribute [local go_sem ↓] run_store_float

abbrev one9 (w0 w : World) (c s n e k i : Int) (f : Nat) (x : ByteArray) (sl : Value) : Prop := ok9 w w0.heap.size c s n e k i f x sl ∧ Below w0.heap.size w0 w ∧ w0.heap.size < w.heap.size
theorem one9.keep {w0 w w1 : World} (hb : Below w.heap.size w w1) {c s n e k i f x sl} (h : one9 w0 w c s n e k i f x sl) : one9 w0 w1 c s n e k i f x sl := ⟨block_below hb h.1, h.2.1.trans (hb.mono (Nat.le_of_lt h.2.2)), Nat.lt_of_lt_of_le h.2.2 hb.size⟩
theorem one9.start0 {w0 : World} {c s n e k i : Int} {f : Nat} {x : ByteArray} {sl : Value} : one9 w0 (w0.alloc (.cells #[.int .u32 c, .int .u32 s, .int .u16 n, .int .i64 e, .int .i64 k, .int .i64 i, .float .f64 f, .string x, sl] 45)) c s n e k i f x sl := ⟨block_alloc_at _ rfl, (Below.refl _ _).alloc (Nat.le_refl _) _, by simp⟩
theorem below5at4 {B : Nat} {w0 w : World} {u0 u1 u2 u3 u4 : Value} (h : Below B w0 w) : Below B w0 (((((w.setCell ⟨B, 4, none⟩ u0).setCell ⟨B, 5, none⟩ u1).setCell ⟨B, 6, none⟩ u2).setCell ⟨B, 7, none⟩ u3).setCell ⟨B, 8, none⟩ u4) :=
  ((((h.setCell (Nat.le_refl B) _).setCell (Nat.le_refl B) _).setCell (Nat.le_refl B) _).setCell (Nat.le_refl B) _).setCell (Nat.le_refl B) _
theorem callReplies_light (a : Option Addr) (c : Nat) (zs : List Int) (rc rs_ rn : Nat) (re k i : Int) (f : Nat) (s : ByteArray) (l : List V) (va : Option Addr) (vc : Nat) (a2 : Option Addr) (c2 : Nat) (ms : List Int) (w : World)
    (hl : zs.length ≤ c ∧ c ≤ 9223372036854775807) (hc : a = none → c = 0) (hz : BIn w a zs) (hp : ∀ p, a = some p → p.block < w.heap.size) (hl2 : ms.length ≤ c2 ∧ c2 ≤ 9223372036854775807) (hc2 : a2 = none → c2 = 0) (hz2 : BIn w a2 ms) (hi : rc < 4294967296 ∧ rs_ < 4294967296 ∧ rn < 65536)
    (hv : VIn (fun _ => True) w (V.mk k i f s l) (.slice va l.length vc)) (h : (V.mk k i f s l).light = false) :
    Calls Try.prog 4 #[.slice a zs.length c, .agg #[.int .u32 rc, .int .u32 rs_, .int .u16 rn, .int .i64 re, .int .i64 k, .int .i64 i, .float .f64 f, .string s, .slice va l.length vc], .slice a2 ms.length c2] w fun e w' => e = .returned (.bool true) ∧ Below w.heap.size w w' := by
  have HZ := Lib.hid hz
  have HZ2 := Lib.hid hz2
  have HV := Lib.hid (show VIn (fun b => b < w.heap.size) w (V.mk k i f s l) (.slice va l.length vc) from hv.keep (fun _ _ _ => rfl) (fun b _ hlt => hlt))
  have HP := Lib.hid hp
  have HC := Lib.hid (And.intro hc hc2)
  have HAL := Lib.hid (one9.start0 (w0 := w) (c := rc) (s := rs_) (n := rn) (e := re) (k := k) (i := i) (f := f) (x := s) (sl := .slice va l.length vc))
  clear hz hz2 hv hp hc hc2
  go_enter Try.func4, Try.ntmps4
  go_wp2_with fail
  refine (known6_c _).mono ?_
  rintro e w1 ⟨rfl, hb1⟩
  have H1 := Lib.hid (one9.keep hb1 HAL.out)
  obtain ⟨⟨⟨c0, c1, c2'⟩, c3, c4, c5, c6, c7, c8⟩, _, _⟩ := H1.out.1.cells
  clear hb1
  go_wp2_with fail
  refine (light_c (V.mk k i f s l) w1 _ _ (HV.out.below H1.out.2.1)).mono ?_
  rintro e w2 ⟨rfl, hb2⟩
  have H2 := Lib.hid (one9.keep hb2 H1.out)
  clear hb2 c0 c1 c2' c3 c4 c5 c6 c7 c8 H1 HAL
  rw [h]
  go_wp2_with fail
  go_ret
  exact ⟨rfl, H2.out.2.1⟩

theorem callReplies_long (a : Option Addr) (c : Nat) (zs : List Int) (rc rs_ rn : Nat) (re k i : Int) (f : Nat) (s : ByteArray) (l : List V) (va : Option Addr) (vc : Nat) (a2 : Option Addr) (c2 : Nat) (ms : List Int) (w : World)
    (hl : zs.length ≤ c ∧ c ≤ 9223372036854775807) (hc : a = none → c = 0) (hz : BIn w a zs) (hp : ∀ p, a = some p → p.block < w.heap.size) (hl2 : ms.length ≤ c2 ∧ c2 ≤ 9223372036854775807) (hc2 : a2 = none → c2 = 0) (hz2 : BIn w a2 ms) (hi : rc < 4294967296 ∧ rs_ < 4294967296 ∧ rn < 65536)
    (hv : VIn (fun _ => True) w (V.mk k i f s l) (.slice va l.length vc)) (h : (V.mk k i f s l).light = true) (h2 : (100 : Int) < zs.length) :
    Calls Try.prog 4 #[.slice a zs.length c, .agg #[.int .u32 rc, .int .u32 rs_, .int .u16 rn, .int .i64 re, .int .i64 k, .int .i64 i, .float .f64 f, .string s, .slice va l.length vc], .slice a2 ms.length c2] w fun e w' => e = .returned (.bool true) ∧ Below w.heap.size w w' := by
  have HZ := Lib.hid hz
  have HZ2 := Lib.hid hz2
  have HV := Lib.hid (show VIn (fun b => b < w.heap.size) w (V.mk k i f s l) (.slice va l.length vc) from hv.keep (fun _ _ _ => rfl) (fun b _ hlt => hlt))
  have HP := Lib.hid hp
  have HC := Lib.hid (And.intro hc hc2)
  have HAL := Lib.hid (one9.start0 (w0 := w) (c := rc) (s := rs_) (n := rn) (e := re) (k := k) (i := i) (f := f) (x := s) (sl := .slice va l.length vc))
  clear hz hz2 hv hp hc hc2
  go_enter Try.func4, Try.ntmps4
  go_wp2_with fail
  refine (known6_c _).mono ?_
  rintro e w1 ⟨rfl, hb1⟩
  have H1 := Lib.hid (one9.keep hb1 HAL.out)
  obtain ⟨⟨⟨c0, c1, c2'⟩, c3, c4, c5, c6, c7, c8⟩, _, _⟩ := H1.out.1.cells
  clear hb1
  go_wp2_with fail
  refine (light_c (V.mk k i f s l) w1 _ _ (HV.out.below H1.out.2.1)).mono ?_
  rintro e w2 ⟨rfl, hb2⟩
  have H2 := Lib.hid (one9.keep hb2 H1.out)
  clear hb2 c0 c1 c2' c3 c4 c5 c6 c7 c8 H1 HAL
  rw [h]
  go_wp2_with fail
  go_ret
  exact ⟨rfl, H2.out.2.1⟩

theorem callReplies_long2 (a : Option Addr) (c : Nat) (zs : List Int) (rc rs_ rn : Nat) (re k i : Int) (f : Nat) (s : ByteArray) (l : List V) (va : Option Addr) (vc : Nat) (a2 : Option Addr) (c2 : Nat) (ms : List Int) (w : World)
    (hl : zs.length ≤ c ∧ c ≤ 9223372036854775807) (hc : a = none → c = 0) (hz : BIn w a zs) (hp : ∀ p, a = some p → p.block < w.heap.size) (hl2 : ms.length ≤ c2 ∧ c2 ≤ 9223372036854775807) (hc2 : a2 = none → c2 = 0) (hz2 : BIn w a2 ms) (hi : rc < 4294967296 ∧ rs_ < 4294967296 ∧ rn < 65536)
    (hv : VIn (fun _ => True) w (V.mk k i f s l) (.slice va l.length vc)) (h : (V.mk k i f s l).light = true) (h2 : (zs.length : Int) ≤ 100) (h3 : (100 : Int) < ms.length) :
    Calls Try.prog 4 #[.slice a zs.length c, .agg #[.int .u32 rc, .int .u32 rs_, .int .u16 rn, .int .i64 re, .int .i64 k, .int .i64 i, .float .f64 f, .string s, .slice va l.length vc], .slice a2 ms.length c2] w fun e w' => e = .returned (.bool true) ∧ Below w.heap.size w w' := by
  have HZ := Lib.hid hz
  have HZ2 := Lib.hid hz2
  have HV := Lib.hid (show VIn (fun b => b < w.heap.size) w (V.mk k i f s l) (.slice va l.length vc) from hv.keep (fun _ _ _ => rfl) (fun b _ hlt => hlt))
  have HP := Lib.hid hp
  have HC := Lib.hid (And.intro hc hc2)
  have HAL := Lib.hid (one9.start0 (w0 := w) (c := rc) (s := rs_) (n := rn) (e := re) (k := k) (i := i) (f := f) (x := s) (sl := .slice va l.length vc))
  clear hz hz2 hv hp hc hc2
  go_enter Try.func4, Try.ntmps4
  go_wp2_with fail
  refine (known6_c _).mono ?_
  rintro e w1 ⟨rfl, hb1⟩
  have H1 := Lib.hid (one9.keep hb1 HAL.out)
  obtain ⟨⟨⟨c0, c1, c2'⟩, c3, c4, c5, c6, c7, c8⟩, _, _⟩ := H1.out.1.cells
  clear hb1
  go_wp2_with fail
  refine (light_c (V.mk k i f s l) w1 _ _ (HV.out.below H1.out.2.1)).mono ?_
  rintro e w2 ⟨rfl, hb2⟩
  have H2 := Lib.hid (one9.keep hb2 H1.out)
  clear hb2 c0 c1 c2' c3 c4 c5 c6 c7 c8 H1 HAL
  rw [h]
  go_wp2_with fail
  go_ret
  exact ⟨rfl, H2.out.2.1⟩

set_option maxHeartbeats 4000000 in
theorem callReplies_err (a : Option Addr) (c : Nat) (zs : List Int) (rc rs_ rn : Nat) (re k i : Int) (f : Nat) (s : ByteArray) (l : List V) (va : Option Addr) (vc : Nat) (a2 : Option Addr) (c2 : Nat) (ms : List Int) (w : World)
    (hl : zs.length ≤ c ∧ c ≤ 9223372036854775807) (hc : a = none → c = 0) (hz : BIn w a zs) (hp : ∀ p, a = some p → p.block < w.heap.size) (hl2 : ms.length ≤ c2 ∧ c2 ≤ 9223372036854775807) (hc2 : a2 = none → c2 = 0) (hz2 : BIn w a2 ms) (hi : rc < 4294967296 ∧ rs_ < 4294967296 ∧ rn < 65536)
    (hv : VIn (fun _ => True) w (V.mk k i f s l) (.slice va l.length vc)) (h : (V.mk k i f s l).light = true) (h2 : (zs.length : Int) ≤ 100) (h3 : (ms.length : Int) ≤ 100) (E : Int) (hE : E ≠ 0) (hput : rput zs rc rs_ rn re (V.mk k i f s l) = ([], E)) :
    Calls Try.prog 4 #[.slice a zs.length c, .agg #[.int .u32 rc, .int .u32 rs_, .int .u16 rn, .int .i64 re, .int .i64 k, .int .i64 i, .float .f64 f, .string s, .slice va l.length vc], .slice a2 ms.length c2] w fun e w' => e = .returned (.bool true) ∧ Below w.heap.size w w' := by
  have HVP := Lib.hid hput
  have hE0 : (E != 0) = true := by simpa using hE
  have hEE : (E != E) = false := by simp
  clear hE hput
  have HZ := Lib.hid hz
  have HZ2 := Lib.hid hz2
  have HV := Lib.hid (show VIn (fun b => b < w.heap.size) w (V.mk k i f s l) (.slice va l.length vc) from hv.keep (fun _ _ _ => rfl) (fun b _ hlt => hlt))
  have HP := Lib.hid hp
  have HC := Lib.hid (And.intro hc hc2)
  have HAL := Lib.hid (one9.start0 (w0 := w) (c := rc) (s := rs_) (n := rn) (e := re) (k := k) (i := i) (f := f) (x := s) (sl := .slice va l.length vc))
  clear hz hz2 hv hp hc hc2
  go_enter Try.func4, Try.ntmps4
  go_wp2_with fail
  refine (known6_c _).mono ?_
  rintro e w1 ⟨rfl, hb1⟩
  have H1 := Lib.hid (one9.keep hb1 HAL.out)
  obtain ⟨⟨⟨c0, c1, c2'⟩, c3, c4, c5, c6, c7, c8⟩, _, _⟩ := H1.out.1.cells
  clear hb1
  go_wp2_with fail
  refine (light_c (V.mk k i f s l) w1 _ _ (HV.out.below H1.out.2.1)).mono ?_
  rintro e w2 ⟨rfl, hb2⟩
  have H2 := Lib.hid (one9.keep hb2 H1.out)
  clear hb2 c0 c1 c2' c3 c4 c5 c6 c7 c8 H1 HAL
  rw [h]
  obtain ⟨⟨⟨c0, c1, c2'⟩, c3, c4, c5, c6, c7, c8⟩, _, _⟩ := H2.out.1.cells
  go_wp2_with fail
  have hP2 := putReply2_c w.heap.size a c zs rc rs_ rn re (V.mk k i f s l) (.slice va l.length vc) w2 hi (HZ.out.below H2.out.2.1) HC.out.1 hl.1 H2.out.2.1.size (by omega) (HV.out.below H2.out.2.1)
  rw [HVP.out] at hP2
  refine hP2.mono ?_
  rintro e w3 ⟨sl3, rfl, hbs3, hb3, hat3⟩
  have H3 := Lib.hid (one9.keep hb3 H2.out)
  have HF3 := Lib.hid (And.intro hbs3 hat3)
  clear hbs3 hb3 hat3 c0 c1 c2' c3 c4 c5 c6 c7 c8 H2 hP2
  obtain ⟨⟨⟨c0, c1, c2'⟩, c3, c4, c5, c6, c7, c8⟩, _, _⟩ := H3.out.1.cells
  have hsl := fun w => sub_full a zs.length c hl.1 w
  go_wp2_with fail
  refine wp_region_held_drew (S := fun w' => at9 w' w.heap.size rc rs_ rn re k i f s (.slice va l.length vc) ∧ one9 w w' rc rs_ rn re k i f s (.slice va l.length vc)) (by kernel_rfl) ⟨(one9.keep (Below.refl _ _).drew H3.out).1.cells.1, one9.keep (Below.refl _ _).drew H3.out⟩ (fun hT => ?_)
  refine H_take 0 hT rfl (by kernel_rfl) (by kernel_rfl) (by kernel_rfl) (fun _ _ _ h => h) (by rfl) (by (intro w' hw'; (try dsimp only at hw'); go_simp; try with_reducible rfl)) ?_
  try simp only [Act.put, List.setIfInBounds_toArray, List.set_cons_zero, List.set_cons_succ]
  refine H_take 1 hT rfl (by kernel_rfl) (by kernel_rfl) (by kernel_rfl) (fun _ _ _ h => h) (by rfl) (by (intro w' hw'; (try dsimp only at hw'); go_simp; try with_reducible rfl)) ?_
  try simp only [Act.put, List.setIfInBounds_toArray, List.set_cons_zero, List.set_cons_succ]
  refine H_take 2 hT rfl (by kernel_rfl) (by kernel_rfl) (by kernel_rfl) (fun _ _ _ h => h) (by rfl) (by (intro w' hw'; (try dsimp only at hw'); go_simp; try with_reducible rfl)) ?_
  try simp only [Act.put, List.setIfInBounds_toArray, List.set_cons_zero, List.set_cons_succ]
  refine H_take 3 hT rfl (by kernel_rfl) (by kernel_rfl) (by kernel_rfl) (fun _ _ _ h => h) (by rfl) (by (intro w' hw'; (try dsimp only at hw'); go_simp; try with_reducible rfl)) ?_
  try simp only [Act.put, List.setIfInBounds_toArray, List.set_cons_zero, List.set_cons_succ]
  refine H_take 4 hT rfl (by kernel_rfl) (by kernel_rfl) (by kernel_rfl) (fun _ _ _ h => h) (by rfl) (by (intro w' hw'; (try dsimp only at hw'); go_simp; try with_reducible rfl)) ?_
  try simp only [Act.put, List.setIfInBounds_toArray, List.set_cons_zero, List.set_cons_succ]
  refine H_take 5 hT rfl (by kernel_rfl) (by kernel_rfl) (by kernel_rfl) (fun _ _ _ h => h) (by rfl) (by (intro w' hw'; (try dsimp only at hw'); go_simp; try with_reducible rfl)) ?_
  try simp only [Act.put, List.setIfInBounds_toArray, List.set_cons_zero, List.set_cons_succ]
  refine H_take 6 hT rfl (by kernel_rfl) (by kernel_rfl) (by kernel_rfl) (fun _ _ _ h => h) (by rfl) (by (intro w' hw'; (try dsimp only at hw'); go_simp; try with_reducible rfl)) ?_
  try simp only [Act.put, List.setIfInBounds_toArray, List.set_cons_zero, List.set_cons_succ]
  refine H_one 7 rfl (by kernel_rfl) (fun K hK => ?_)
  rw [if_pos (by rfl)]
  go_simp
  have HPB := Lib.hid (show Bs w3.drew w.heap.size (.slice a zs.length zs.length) zs from .inr ⟨a, rfl, HZ.out.below hT.2.2.1, fun p hp => Nat.lt_of_lt_of_le (HP.out p hp) hT.2.2.1.size⟩)
  have hP1 := putReply1_c w.heap.size (.slice a zs.length zs.length) zs rc rs_ rn re (V.mk k i f s l) (.slice va l.length vc) w3.drew hi HPB.out hT.2.2.1.size (by omega) (HV.out.below hT.2.2.1)
  rw [HVP.out] at hP1
  refine hP1.mono ?_
  rintro e w4 ⟨sl4, rfl, hap4⟩
  have hb4 : Below w3.drew.heap.size w3.drew w4 := by
    have hob : obk w.heap.size (.slice a zs.length zs.length) = none := by
      cases ho : obk w.heap.size (.slice a zs.length zs.length) with
      | none => rfl
      | some q =>
        obtain ⟨e1, e2⟩ := obk_some.1 ho
        cases a with
        | none => cases e1
        | some p => have := HP.out p rfl; have e3 : p.block = q := Option.some.inj e1; omega
    have hg := hap4.grew
    rw [hob] at hg
    exact ⟨hg.os, hg.tape, hg.output, hg.size, fun q hq => hg.block q hq (by simp)⟩
  have HB4 := Lib.hid hb4
  have HS4 := Lib.hid hap4.bs
  have hT4' := one9.keep hb4 hT.2
  refine hK _ _ ⟨hT4'.1.cells.1, hT4'⟩ (fun hT4 => ?_)
  clear hK hT hap4 hb4 hP1 hT4'
  try simp only [Act.put, List.setIfInBounds_toArray, List.set_cons_zero, List.set_cons_succ]
  refine H_take 8 hT4 rfl (by kernel_rfl) (by kernel_rfl) (by kernel_rfl) (fun _ _ _ h => h) (by rfl) (by (intro w' hw'; (try dsimp only at hw'); go_simp; try with_reducible rfl)) ?_
  try simp only [Act.put, List.setIfInBounds_toArray, List.set_cons_zero, List.set_cons_succ]
  refine H_take 9 hT4 rfl (by kernel_rfl) (by kernel_rfl) (by kernel_rfl) (fun _ _ _ h => h) (by rfl) (by (intro w' hw'; (try dsimp only at hw'); go_simp; try with_reducible rfl)) ?_
  try simp only [Act.put, List.setIfInBounds_toArray, List.set_cons_zero, List.set_cons_succ]
  refine H_take 10 hT4 rfl (by kernel_rfl) (by kernel_rfl) (by kernel_rfl) (fun _ _ _ h => h) (by rfl) (by (intro w' hw'; (try dsimp only at hw'); go_simp; try with_reducible rfl)) ?_
  try simp only [Act.put, List.setIfInBounds_toArray, List.set_cons_zero, List.set_cons_succ]
  refine H_take 11 hT4 rfl (by kernel_rfl) (by kernel_rfl) (by kernel_rfl) (fun _ _ _ h => h) (by rfl) (by (intro w' hw'; (try dsimp only at hw'); go_simp; try with_reducible rfl)) ?_
  try simp only [Act.put, List.setIfInBounds_toArray, List.set_cons_zero, List.set_cons_succ]
  refine H_take 12 hT4 rfl (by kernel_rfl) (by kernel_rfl) (by kernel_rfl) (fun _ _ _ h => h) (by rfl) (by (intro w' hw'; (try dsimp only at hw'); go_simp; try with_reducible rfl)) ?_
  try simp only [Act.put, List.setIfInBounds_toArray, List.set_cons_zero, List.set_cons_succ]
  refine wpAnyH_done (by kernel_rfl) ?_ _
  have H4 := Lib.hid hT4.2
  clear hT4 c0 c1 c2' c3 c4 c5 c6 c7 c8 hsl
  obtain ⟨a3, c3, rfl, _, _, hbin3⟩ := (HF3.out.1.below (show Below w3.heap.size w3 w4 from ((Below.refl _ w3).drew).trans HB4.out)).binB (fun z hz => by cases hz) (by simp)
  obtain ⟨a4, c4, rfl, _, _, hbin4⟩ := HS4.out.binB (fun z hz => by cases hz) (by simp)
  have hcv1 := run_convert_bin w4 a3 0 c3 [] hbin3 rfl
  have hcv2 := run_convert_bin w4 a4 0 c4 [] hbin4 rfl
  simp only [List.length_nil]
  clear hbin3 hbin4
  generalize txtB [] = tx at hcv1 hcv2
  go_wp2_with fail
  go_ret
  exact ⟨rfl, H4.out.2.1⟩

set_option maxHeartbeats 4000000 in
theorem callReplies_ok (a : Option Addr) (c : Nat) (zs : List Int) (rc rs_ rn : Nat) (eN : Nat) (k i : Int) (f : Nat) (s : ByteArray) (l : List V) (va : Option Addr) (vc : Nat) (a2 : Option Addr) (c2 : Nat) (ms : List Int) (w : World)
    (hl : zs.length ≤ c ∧ c ≤ 9223372036854775807) (hc : a = none → c = 0) (hz : BIn w a zs) (hp : ∀ p, a = some p → p.block < w.heap.size) (hl2 : ms.length ≤ c2 ∧ c2 ≤ 9223372036854775807) (hc2 : a2 = none → c2 = 0) (hz2 : BIn w a2 ms) (hi : rc < 4294967296 ∧ rs_ < 4294967296 ∧ rn < 65536)
    (hv : VIn (fun _ => True) w (V.mk k i f s l) (.slice va l.length vc)) (h : (V.mk k i f s l).light = true) (h2 : (zs.length : Int) ≤ 100) (h3 : (ms.length : Int) ≤ 100) (bs : List Int) (hput : rput zs rc rs_ rn eN (V.mk k i f s l) = (zs ++ bs, 0)) (hby : Byt bs) (hbl : 0 < bs.length) (hbl2 : bs.length ≤ 200000) (hrd : rread (bs ++ ms) = (⟨rc, rs_, rn, eN, (V.mk k i f s l).clean⟩, (bs.length : Int), 0)) (bm om : Nat) (ha2 : a2 = some ⟨bm, om, none⟩) (hm : 0 < ms.length) :
    Calls Try.prog 4 #[.slice a zs.length c, .agg #[.int .u32 rc, .int .u32 rs_, .int .u16 rn, .int .i64 (eN : Int), .int .i64 k, .int .i64 i, .float .f64 f, .string s, .slice va l.length vc], .slice a2 ms.length c2] w fun e w' => e = .returned (.bool true) ∧ Below w.heap.size w w' := by
  subst ha2
  have HVP := Lib.hid hput
  have HBY := Lib.hid hby
  have HRD := Lib.hid hrd
  clear hput hby hrd
  have HZ := Lib.hid hz
  have HZ2 := Lib.hid hz2
  have HV := Lib.hid (show VIn (fun b => b < w.heap.size) w (V.mk k i f s l) (.slice va l.length vc) from hv.keep (fun _ _ _ => rfl) (fun b _ hlt => hlt))
  have HP := Lib.hid hp
  have HC := Lib.hid (And.intro hc hc2)
  have HAL := Lib.hid (one9.start0 (w0 := w) (c := rc) (s := rs_) (n := rn) (e := (eN : Int)) (k := k) (i := i) (f := f) (x := s) (sl := .slice va l.length vc))
  clear hz hz2 hv hp hc hc2
  go_enter Try.func4, Try.ntmps4
  go_wp2_with fail
  refine (known6_c _).mono ?_
  rintro e w1 ⟨rfl, hb1⟩
  have H1 := Lib.hid (one9.keep hb1 HAL.out)
  obtain ⟨⟨⟨c0, c1, c2'⟩, c3, c4, c5, c6, c7, c8⟩, _, _⟩ := H1.out.1.cells
  clear hb1
  go_wp2_with fail
  refine (light_c (V.mk k i f s l) w1 _ _ (HV.out.below H1.out.2.1)).mono ?_
  rintro e w2 ⟨rfl, hb2⟩
  have H2 := Lib.hid (one9.keep hb2 H1.out)
  clear hb2 c0 c1 c2' c3 c4 c5 c6 c7 c8 H1 HAL
  rw [h]
  obtain ⟨⟨⟨c0, c1, c2'⟩, c3, c4, c5, c6, c7, c8⟩, _, _⟩ := H2.out.1.cells
  go_wp2_with fail
  have hP2 := putReply2_c w.heap.size a c zs rc rs_ rn eN (V.mk k i f s l) (.slice va l.length vc) w2 hi (HZ.out.below H2.out.2.1) HC.out.1 hl.1 H2.out.2.1.size (by omega) (HV.out.below H2.out.2.1)
  rw [HVP.out] at hP2
  refine hP2.mono ?_
  rintro e w3 ⟨sl3, rfl, hbs3, hb3, hat3⟩
  have H3 := Lib.hid (one9.keep hb3 H2.out)
  have HF3 := Lib.hid (And.intro hbs3 hat3)
  clear hbs3 hb3 hat3 c0 c1 c2' c3 c4 c5 c6 c7 c8 H2 hP2
  obtain ⟨⟨⟨c0, c1, c2'⟩, c3, c4, c5, c6, c7, c8⟩, _, _⟩ := H3.out.1.cells
  have hsl := fun w => sub_full a zs.length c hl.1 w
  go_wp2_with fail
  refine wp_region_held_drew (S := fun w' => at9 w' w.heap.size rc rs_ rn eN k i f s (.slice va l.length vc) ∧ one9 w w' rc rs_ rn eN k i f s (.slice va l.length vc)) (by kernel_rfl) ⟨(one9.keep (Below.refl _ _).drew H3.out).1.cells.1, one9.keep (Below.refl _ _).drew H3.out⟩ (fun hT => ?_)
  refine H_take 0 hT rfl (by kernel_rfl) (by kernel_rfl) (by kernel_rfl) (fun _ _ _ h => h) (by rfl) (by (intro w' hw'; (try dsimp only at hw'); go_simp; try with_reducible rfl)) ?_
  try simp only [Act.put, List.setIfInBounds_toArray, List.set_cons_zero, List.set_cons_succ]
  refine H_take 1 hT rfl (by kernel_rfl) (by kernel_rfl) (by kernel_rfl) (fun _ _ _ h => h) (by rfl) (by (intro w' hw'; (try dsimp only at hw'); go_simp; try with_reducible rfl)) ?_
  try simp only [Act.put, List.setIfInBounds_toArray, List.set_cons_zero, List.set_cons_succ]
  refine H_take 2 hT rfl (by kernel_rfl) (by kernel_rfl) (by kernel_rfl) (fun _ _ _ h => h) (by rfl) (by (intro w' hw'; (try dsimp only at hw'); go_simp; try with_reducible rfl)) ?_
  try simp only [Act.put, List.setIfInBounds_toArray, List.set_cons_zero, List.set_cons_succ]
  refine H_take 3 hT rfl (by kernel_rfl) (by kernel_rfl) (by kernel_rfl) (fun _ _ _ h => h) (by rfl) (by (intro w' hw'; (try dsimp only at hw'); go_simp; try with_reducible rfl)) ?_
  try simp only [Act.put, List.setIfInBounds_toArray, List.set_cons_zero, List.set_cons_succ]
  refine H_take 4 hT rfl (by kernel_rfl) (by kernel_rfl) (by kernel_rfl) (fun _ _ _ h => h) (by rfl) (by (intro w' hw'; (try dsimp only at hw'); go_simp; try with_reducible rfl)) ?_
  try simp only [Act.put, List.setIfInBounds_toArray, List.set_cons_zero, List.set_cons_succ]
  refine H_take 5 hT rfl (by kernel_rfl) (by kernel_rfl) (by kernel_rfl) (fun _ _ _ h => h) (by rfl) (by (intro w' hw'; (try dsimp only at hw'); go_simp; try with_reducible rfl)) ?_
  try simp only [Act.put, List.setIfInBounds_toArray, List.set_cons_zero, List.set_cons_succ]
  refine H_take 6 hT rfl (by kernel_rfl) (by kernel_rfl) (by kernel_rfl) (fun _ _ _ h => h) (by rfl) (by (intro w' hw'; (try dsimp only at hw'); go_simp; try with_reducible rfl)) ?_
  try simp only [Act.put, List.setIfInBounds_toArray, List.set_cons_zero, List.set_cons_succ]
  refine H_one 7 rfl (by kernel_rfl) (fun K hK => ?_)
  rw [if_pos (by rfl)]
  go_simp
  have HPB := Lib.hid (show Bs w3.drew w.heap.size (.slice a zs.length zs.length) zs from .inr ⟨a, rfl, HZ.out.below hT.2.2.1, fun p hp => Nat.lt_of_lt_of_le (HP.out p hp) hT.2.2.1.size⟩)
  have hP1 := putReply1_c w.heap.size (.slice a zs.length zs.length) zs rc rs_ rn eN (V.mk k i f s l) (.slice va l.length vc) w3.drew hi HPB.out hT.2.2.1.size (by omega) (HV.out.below hT.2.2.1)
  rw [HVP.out] at hP1
  refine hP1.mono ?_
  rintro e w4 ⟨sl4, rfl, hap4⟩
  have hb4 : Below w3.drew.heap.size w3.drew w4 := by
    have hob : obk w.heap.size (.slice a zs.length zs.length) = none := by
      cases ho : obk w.heap.size (.slice a zs.length zs.length) with
      | none => rfl
      | some q =>
        obtain ⟨e1, e2⟩ := obk_some.1 ho
        cases a with
        | none => cases e1
        | some p => have := HP.out p rfl; have e3 : p.block = q := Option.some.inj e1; omega
    have hg := hap4.grew
    rw [hob] at hg
    exact ⟨hg.os, hg.tape, hg.output, hg.size, fun q hq => hg.block q hq (by simp)⟩
  have HB4 := Lib.hid hb4
  have HS4 := Lib.hid hap4.bs
  have hT4' := one9.keep hb4 hT.2
  refine hK _ _ ⟨hT4'.1.cells.1, hT4'⟩ (fun hT4 => ?_)
  clear hK hT hap4 hb4 hP1 hT4'
  try simp only [Act.put, List.setIfInBounds_toArray, List.set_cons_zero, List.set_cons_succ]
  refine H_take 8 hT4 rfl (by kernel_rfl) (by kernel_rfl) (by kernel_rfl) (fun _ _ _ h => h) (by rfl) (by (intro w' hw'; (try dsimp only at hw'); go_simp; try with_reducible rfl)) ?_
  try simp only [Act.put, List.setIfInBounds_toArray, List.set_cons_zero, List.set_cons_succ]
  refine H_take 9 hT4 rfl (by kernel_rfl) (by kernel_rfl) (by kernel_rfl) (fun _ _ _ h => h) (by rfl) (by (intro w' hw'; (try dsimp only at hw'); go_simp; try with_reducible rfl)) ?_
  try simp only [Act.put, List.setIfInBounds_toArray, List.set_cons_zero, List.set_cons_succ]
  refine H_take 10 hT4 rfl (by kernel_rfl) (by kernel_rfl) (by kernel_rfl) (fun _ _ _ h => h) (by rfl) (by (intro w' hw'; (try dsimp only at hw'); go_simp; try with_reducible rfl)) ?_
  try simp only [Act.put, List.setIfInBounds_toArray, List.set_cons_zero, List.set_cons_succ]
  refine H_take 11 hT4 rfl (by kernel_rfl) (by kernel_rfl) (by kernel_rfl) (fun _ _ _ h => h) (by rfl) (by (intro w' hw'; (try dsimp only at hw'); go_simp; try with_reducible rfl)) ?_
  try simp only [Act.put, List.setIfInBounds_toArray, List.set_cons_zero, List.set_cons_succ]
  refine H_take 12 hT4 rfl (by kernel_rfl) (by kernel_rfl) (by kernel_rfl) (fun _ _ _ h => h) (by rfl) (by (intro w' hw'; (try dsimp only at hw'); go_simp; try with_reducible rfl)) ?_
  try simp only [Act.put, List.setIfInBounds_toArray, List.set_cons_zero, List.set_cons_succ]
  refine wpAnyH_done (by kernel_rfl) ?_ _
  have H4 := Lib.hid hT4.2
  clear hT4 c0 c1 c2' c3 c4 c5 c6 c7 c8 hsl
  obtain ⟨a3, c3, rfl, hl3, hc3, hbin3⟩ := (HF3.out.1.below (show Below w3.heap.size w3 w4 from ((Below.refl _ w3).drew).trans HB4.out)).binB (HZ.out.byt.append HBY.out) (by simp; omega)
  obtain ⟨a4, c4, rfl, _, _, hbin4⟩ := HS4.out.binB (HZ.out.byt.append HBY.out) (by simp; omega)
  have hcv1 := run_convert_bin w4 a3 (zs ++ bs).length c3 _ hbin3 rfl
  have hcv2 := run_convert_bin w4 a4 (zs ++ bs).length c4 _ hbin4 rfl
  have HZ3 := Lib.hid hbin3
  obtain ⟨a5, c5, ys, hys, hl5, hc5, hbin5, hsl5⟩ := sub_at a3 c3 (zs ++ bs) zs.length (by simp) hl3 hc3
  have hyb : ys = bs := by rw [hys]; simp
  have HZ5 := Lib.hid (hbin5 _ hbin3)
  subst hyb
  obtain ⟨b5, o5, rfl, _⟩ := HZ5.out 0 hbl
  have hln : (zs ++ ys).length = zs.length + ys.length := List.length_append
  generalize hN : (zs ++ ys).length = N at *
  have HN := Lib.hid hN
  have HLN := Lib.hid hln
  have hzN : (zs.length : Int) ≤ N := by omega
  clear hbin3 hbin4 hbin5 hys hN hln
  generalize txtB (zs ++ ys) = tx at hcv1 hcv2
  have HBS4 := Lib.hid (show w.heap.size ≤ w4.heap.size from H4.out.2.1.size)
  have hbm := HZ2.out
  go_wp2_with (first | (at_builtin; (refine wpList_append_bsn _ rfl (.const (.slice none 0 0)) (.tmp 63) rfl w.heap.size ys rfl ⟨b5, o5, none⟩ ys.length c5 rfl rfl (HZ5.out.cells ⟨b5, o5, none⟩ rfl) hbl (by omega) HBS4.out ?_; intro g cap w5 hap5)) | (at_builtin; (refine wpList_append_bs _ rfl (.tmp 64) (.tmp 65) rfl w.heap.size (.slice (some ⟨g, 0, none⟩) ys.length cap) ys ms rfl hap5.bs ⟨bm, om, none⟩ ms.length c2 rfl rfl ((BIn.below hbm (H4.out.2.1.trans (apn_below HBS4.out hap5))).cells ⟨bm, om, none⟩ rfl) hm (by omega) (Nat.le_trans HBS4.out hap5.grew.size) ?_; intro g2 cap2 w6 hap6)))
  have hbT := apn_below (Nat.le_refl _) (hap5.trans hap6)
  have hTT := (hap5.trans hap6).bs
  have hbyt : Byt (ys ++ ms) := (HBY.out : Byt _).append HZ2.out.byt
  obtain ⟨hn6, hl6, hc6, hbin6⟩ := hTT.at_ (by simp; omega) hbyt
  have H6 := Lib.hid (one9.keep hbT H4.out)
  have H6S := Lib.hid H6.out.2.2
  have HZ6 := Lib.hid hbin6
  have HRR := HRD.out
  obtain ⟨ck, ci, cf, cs, cl, hcl⟩ := V.parts (V.mk k i f s l).clean
  rw [hcl] at HRR
  have HCL := Lib.hid hcl
  clear hbT hTT hbyt hbin6 hbm hcv1 hcv2 hsl5 H4 HB4 HS4 HF3 H3 hcl hap5 hap6
  refine (ReadP2_n (N := ys.length + ms.length) HRR hn6.symm ⟨by omega, hl6⟩ hc6 HZ6.out).mono ?_
  rintro e w7 ⟨sa7, sc7, rfl, hv7, hb7⟩
  dsimp only [V.k_mk, V.i_mk, V.f_mk, V.s_mk, V.l_mk] at hv7 ⊢
  have H7 := Lib.hid (one9.keep hb7 H6.out)
  have HV7 := Lib.hid hv7
  have HNN := Lib.hid hn6
  have HAA := Lib.hid ((Below.refl w7.heap.size w7).alloc (Nat.le_refl _) (.cells #[.int .u32 rc, .int .u32 rs_, .int .u16 rn, .int .i64 eN, .int .i64 ck, .int .i64 ci, .float .f64 cf, .string cs, .slice sa7 cl.length sc7] 45))
  have H8 := Lib.hid (one9.keep HAA.out H7.out)
  have HQ8 := Lib.hid (show ok9 (w7.alloc (.cells #[.int .u32 rc, .int .u32 rs_, .int .u16 rn, .int .i64 eN, .int .i64 ck, .int .i64 ci, .float .f64 cf, .string cs, .slice sa7 cl.length sc7] 45)) w7.heap.size rc rs_ rn eN ck ci cf cs (.slice sa7 cl.length sc7) from block_alloc_at _ rfl)
  have HV8 := Lib.hid (HV7.out.below HAA.out)
  obtain ⟨⟨⟨c0, c1, c2'⟩, c3, c4, c5, c6, c7, c8⟩, _, _⟩ := H8.out.1.cells
  have hw1 : IntKind.i64.wrap ((N : Int) - (zs.length : Int)) = (ys.length : Int) := by
    have := HLN.out
    rw [show (N : Int) - (zs.length : Int) = (ys.length : Int) by omega]
    exact IntWalk.i64_in _ (by omega)
  clear hb7 hv7 H6 hn6 hl6 hc6 HRR
  go_wp2_with fail
  generalize w7.alloc _ = w8 at *
  refine (clean1_c (V.mk k i f s l) w8 _ _ (HV.out.below H8.out.2.1)).mono ?_
  rintro e w9 ⟨sl9, rfl, hv9, hb9⟩
  rw [HCL.out] at hv9 ⊢
  simp only [V.k_mk, V.i_mk, V.f_mk, V.s_mk] at hv9 ⊢
  obtain ⟨sa9, sc9, rfl⟩ := hv9.form
  simp only [V.l_mk] at hv9 ⊢
  have H9 := Lib.hid (one9.keep hb9 H8.out)
  have HX9 := Lib.hid (show w9.heap[w.heap.size]? = _ from H9.out.1)
  have HQ9 := Lib.hid (show ok9 w9 w7.heap.size rc rs_ rn eN ck ci cf cs (.slice sa7 cl.length sc7) from block_below hb9 HQ8.out)
  have hwv : w.heap.size < w7.heap.size := H7.out.2.2
  have HVa := Lib.hid ((HV8.out.below hb9).keep (w' := ((((w9.setCell ⟨w.heap.size, 4, none⟩ (.int .i64 ck)).setCell ⟨w.heap.size, 5, none⟩ (.int .i64 ci)).setCell ⟨w.heap.size, 6, none⟩ (.float .f64 cf)).setCell ⟨w.heap.size, 7, none⟩ (.string cs)).setCell ⟨w.heap.size, 8, none⟩ (.slice sa9 cl.length sc9)) (D' := fun _ => True) (fun b hD _ => by
    have hne : b ≠ w.heap.size := Nat.ne_of_gt (Nat.lt_of_lt_of_le H6S.out hD)
    rw [Below.heap_setCell _ _ _ _ hne, Below.heap_setCell _ _ _ _ hne, Below.heap_setCell _ _ _ _ hne, Below.heap_setCell _ _ _ _ hne, Below.heap_setCell _ _ _ _ hne]) (fun _ _ _ => trivial))
  have HVb := Lib.hid (hv9.keep (w' := ((((w9.setCell ⟨w.heap.size, 4, none⟩ (.int .i64 ck)).setCell ⟨w.heap.size, 5, none⟩ (.int .i64 ci)).setCell ⟨w.heap.size, 6, none⟩ (.float .f64 cf)).setCell ⟨w.heap.size, 7, none⟩ (.string cs)).setCell ⟨w.heap.size, 8, none⟩ (.slice sa9 cl.length sc9)) (D' := fun _ => True) (fun b hD _ => by
    have hne : b ≠ w.heap.size := Nat.ne_of_gt (Nat.lt_of_lt_of_le H8.out.2.2 hD)
    rw [Below.heap_setCell _ _ _ _ hne, Below.heap_setCell _ _ _ _ hne, Below.heap_setCell _ _ _ _ hne, Below.heap_setCell _ _ _ _ hne, Below.heap_setCell _ _ _ _ hne]) (fun _ _ _ => trivial))
  obtain ⟨⟨_, _, d4, d5, d6, d7, d8⟩, hfd, hld⟩ := H9.out.1.cells
  have f4 := hfd 4
  have f5 := hfd 5
  have f6 := hfd 6
  have f7 := hfd 7
  have f8 := hfd 8
  obtain ⟨⟨⟨q0, q1, q2⟩, q3, q4, q5, q6, q7, q8⟩, _, _⟩ := HQ9.out.cells
  obtain ⟨⟨⟨d0, d1, d2⟩, d3, _⟩, _, _⟩ := H9.out.1.cells
  have hne1 : ¬ w7.heap.size = w.heap.size := by omega
  have hne2 : ¬ w.heap.size = w7.heap.size := by omega
  have HBX := Lib.hid (show Below w.heap.size w (((((w9.setCell ⟨w.heap.size, 4, none⟩ (.int .i64 ck)).setCell ⟨w.heap.size, 5, none⟩ (.int .i64 ci)).setCell ⟨w.heap.size, 6, none⟩ (.float .f64 cf)).setCell ⟨w.heap.size, 7, none⟩ (.string cs)).setCell ⟨w.heap.size, 8, none⟩ (.slice sa9 cl.length sc9)) from below5at4 H9.out.2.1)
  clear hb9 hv9 hfd c0 c1 c2' c3 c4 c5 c6 c7 c8
  go_wp2_with fail
  generalize ((((w9.setCell ⟨w.heap.size, 4, none⟩ (.int .i64 ck)).setCell ⟨w.heap.size, 5, none⟩ (.int .i64 ci)).setCell ⟨w.heap.size, 6, none⟩ (.float .f64 cf)).setCell ⟨w.heap.size, 7, none⟩ (.string cs)).setCell ⟨w.heap.size, 8, none⟩ (.slice sa9 cl.length sc9) = w10 at *
  refine (preply_c rc rs_ rn eN (V.mk ck ci cf cs cl) _ rc rs_ rn eN (V.mk ck ci cf cs cl) _ _ _ _ HVa.out HVb.out).mono ?_
  rintro e w11 ⟨rfl, hb11⟩
  rw [sameP_self]
  have HB11 := Lib.hid (HBX.out.trans (hb11.mono HBX.out.size))
  clear hb11
  go_wp2_with fail
  go_ret
  exact ⟨rfl, HB11.out⟩

set_option maxHeartbeats 4000000 in
theorem callReplies_ok0 (a : Option Addr) (c : Nat) (zs : List Int) (rc rs_ rn : Nat) (eN : Nat) (k i : Int) (f : Nat) (s : ByteArray) (l : List V) (va : Option Addr) (vc : Nat) (a2 : Option Addr) (c2 : Nat) (ms : List Int) (w : World)
    (hl : zs.length ≤ c ∧ c ≤ 9223372036854775807) (hc : a = none → c = 0) (hz : BIn w a zs) (hp : ∀ p, a = some p → p.block < w.heap.size) (hl2 : ms.length ≤ c2 ∧ c2 ≤ 9223372036854775807) (hc2 : a2 = none → c2 = 0) (hz2 : BIn w a2 ms) (hi : rc < 4294967296 ∧ rs_ < 4294967296 ∧ rn < 65536)
    (hv : VIn (fun _ => True) w (V.mk k i f s l) (.slice va l.length vc)) (h : (V.mk k i f s l).light = true) (h2 : (zs.length : Int) ≤ 100) (h3 : (ms.length : Int) ≤ 100) (bs : List Int) (hput : rput zs rc rs_ rn eN (V.mk k i f s l) = (zs ++ bs, 0)) (hby : Byt bs) (hbl : 0 < bs.length) (hbl2 : bs.length ≤ 200000) (hrd : rread (bs ++ ms) = (⟨rc, rs_, rn, eN, (V.mk k i f s l).clean⟩, (bs.length : Int), 0)) (hm : ms = []) :
    Calls Try.prog 4 #[.slice a zs.length c, .agg #[.int .u32 rc, .int .u32 rs_, .int .u16 rn, .int .i64 (eN : Int), .int .i64 k, .int .i64 i, .float .f64 f, .string s, .slice va l.length vc], .slice a2 ms.length c2] w fun e w' => e = .returned (.bool true) ∧ Below w.heap.size w w' := by
  subst hm
  simp only [List.length_nil]
  have HVP := Lib.hid hput
  have HBY := Lib.hid hby
  have HRD := Lib.hid hrd
  clear hput hby hrd
  have HZ := Lib.hid hz
  have HZ2 := Lib.hid hz2
  have HV := Lib.hid (show VIn (fun b => b < w.heap.size) w (V.mk k i f s l) (.slice va l.length vc) from hv.keep (fun _ _ _ => rfl) (fun b _ hlt => hlt))
  have HP := Lib.hid hp
  have HC := Lib.hid (And.intro hc hc2)
  have HAL := Lib.hid (one9.start0 (w0 := w) (c := rc) (s := rs_) (n := rn) (e := (eN : Int)) (k := k) (i := i) (f := f) (x := s) (sl := .slice va l.length vc))
  clear hz hz2 hv hp hc hc2
  go_enter Try.func4, Try.ntmps4
  go_wp2_with fail
  refine (known6_c _).mono ?_
  rintro e w1 ⟨rfl, hb1⟩
  have H1 := Lib.hid (one9.keep hb1 HAL.out)
  obtain ⟨⟨⟨c0, c1, c2'⟩, c3, c4, c5, c6, c7, c8⟩, _, _⟩ := H1.out.1.cells
  clear hb1
  go_wp2_with fail
  refine (light_c (V.mk k i f s l) w1 _ _ (HV.out.below H1.out.2.1)).mono ?_
  rintro e w2 ⟨rfl, hb2⟩
  have H2 := Lib.hid (one9.keep hb2 H1.out)
  clear hb2 c0 c1 c2' c3 c4 c5 c6 c7 c8 H1 HAL
  rw [h]
  obtain ⟨⟨⟨c0, c1, c2'⟩, c3, c4, c5, c6, c7, c8⟩, _, _⟩ := H2.out.1.cells
  go_wp2_with fail
  have hP2 := putReply2_c w.heap.size a c zs rc rs_ rn eN (V.mk k i f s l) (.slice va l.length vc) w2 hi (HZ.out.below H2.out.2.1) HC.out.1 hl.1 H2.out.2.1.size (by omega) (HV.out.below H2.out.2.1)
  rw [HVP.out] at hP2
  refine hP2.mono ?_
  rintro e w3 ⟨sl3, rfl, hbs3, hb3, hat3⟩
  have H3 := Lib.hid (one9.keep hb3 H2.out)
  have HF3 := Lib.hid (And.intro hbs3 hat3)
  clear hbs3 hb3 hat3 c0 c1 c2' c3 c4 c5 c6 c7 c8 H2 hP2
  obtain ⟨⟨⟨c0, c1, c2'⟩, c3, c4, c5, c6, c7, c8⟩, _, _⟩ := H3.out.1.cells
  have hsl := fun w => sub_full a zs.length c hl.1 w
  go_wp2_with fail
  refine wp_region_held_drew (S := fun w' => at9 w' w.heap.size rc rs_ rn eN k i f s (.slice va l.length vc) ∧ one9 w w' rc rs_ rn eN k i f s (.slice va l.length vc)) (by kernel_rfl) ⟨(one9.keep (Below.refl _ _).drew H3.out).1.cells.1, one9.keep (Below.refl _ _).drew H3.out⟩ (fun hT => ?_)
  refine H_take 0 hT rfl (by kernel_rfl) (by kernel_rfl) (by kernel_rfl) (fun _ _ _ h => h) (by rfl) (by (intro w' hw'; (try dsimp only at hw'); go_simp; try with_reducible rfl)) ?_
  try simp only [Act.put, List.setIfInBounds_toArray, List.set_cons_zero, List.set_cons_succ]
  refine H_take 1 hT rfl (by kernel_rfl) (by kernel_rfl) (by kernel_rfl) (fun _ _ _ h => h) (by rfl) (by (intro w' hw'; (try dsimp only at hw'); go_simp; try with_reducible rfl)) ?_
  try simp only [Act.put, List.setIfInBounds_toArray, List.set_cons_zero, List.set_cons_succ]
  refine H_take 2 hT rfl (by kernel_rfl) (by kernel_rfl) (by kernel_rfl) (fun _ _ _ h => h) (by rfl) (by (intro w' hw'; (try dsimp only at hw'); go_simp; try with_reducible rfl)) ?_
  try simp only [Act.put, List.setIfInBounds_toArray, List.set_cons_zero, List.set_cons_succ]
  refine H_take 3 hT rfl (by kernel_rfl) (by kernel_rfl) (by kernel_rfl) (fun _ _ _ h => h) (by rfl) (by (intro w' hw'; (try dsimp only at hw'); go_simp; try with_reducible rfl)) ?_
  try simp only [Act.put, List.setIfInBounds_toArray, List.set_cons_zero, List.set_cons_succ]
  refine H_take 4 hT rfl (by kernel_rfl) (by kernel_rfl) (by kernel_rfl) (fun _ _ _ h => h) (by rfl) (by (intro w' hw'; (try dsimp only at hw'); go_simp; try with_reducible rfl)) ?_
  try simp only [Act.put, List.setIfInBounds_toArray, List.set_cons_zero, List.set_cons_succ]
  refine H_take 5 hT rfl (by kernel_rfl) (by kernel_rfl) (by kernel_rfl) (fun _ _ _ h => h) (by rfl) (by (intro w' hw'; (try dsimp only at hw'); go_simp; try with_reducible rfl)) ?_
  try simp only [Act.put, List.setIfInBounds_toArray, List.set_cons_zero, List.set_cons_succ]
  refine H_take 6 hT rfl (by kernel_rfl) (by kernel_rfl) (by kernel_rfl) (fun _ _ _ h => h) (by rfl) (by (intro w' hw'; (try dsimp only at hw'); go_simp; try with_reducible rfl)) ?_
  try simp only [Act.put, List.setIfInBounds_toArray, List.set_cons_zero, List.set_cons_succ]
  refine H_one 7 rfl (by kernel_rfl) (fun K hK => ?_)
  rw [if_pos (by rfl)]
  go_simp
  have HPB := Lib.hid (show Bs w3.drew w.heap.size (.slice a zs.length zs.length) zs from .inr ⟨a, rfl, HZ.out.below hT.2.2.1, fun p hp => Nat.lt_of_lt_of_le (HP.out p hp) hT.2.2.1.size⟩)
  have hP1 := putReply1_c w.heap.size (.slice a zs.length zs.length) zs rc rs_ rn eN (V.mk k i f s l) (.slice va l.length vc) w3.drew hi HPB.out hT.2.2.1.size (by omega) (HV.out.below hT.2.2.1)
  rw [HVP.out] at hP1
  refine hP1.mono ?_
  rintro e w4 ⟨sl4, rfl, hap4⟩
  have hb4 : Below w3.drew.heap.size w3.drew w4 := by
    have hob : obk w.heap.size (.slice a zs.length zs.length) = none := by
      cases ho : obk w.heap.size (.slice a zs.length zs.length) with
      | none => rfl
      | some q =>
        obtain ⟨e1, e2⟩ := obk_some.1 ho
        cases a with
        | none => cases e1
        | some p => have := HP.out p rfl; have e3 : p.block = q := Option.some.inj e1; omega
    have hg := hap4.grew
    rw [hob] at hg
    exact ⟨hg.os, hg.tape, hg.output, hg.size, fun q hq => hg.block q hq (by simp)⟩
  have HB4 := Lib.hid hb4
  have HS4 := Lib.hid hap4.bs
  have hT4' := one9.keep hb4 hT.2
  refine hK _ _ ⟨hT4'.1.cells.1, hT4'⟩ (fun hT4 => ?_)
  clear hK hT hap4 hb4 hP1 hT4'
  try simp only [Act.put, List.setIfInBounds_toArray, List.set_cons_zero, List.set_cons_succ]
  refine H_take 8 hT4 rfl (by kernel_rfl) (by kernel_rfl) (by kernel_rfl) (fun _ _ _ h => h) (by rfl) (by (intro w' hw'; (try dsimp only at hw'); go_simp; try with_reducible rfl)) ?_
  try simp only [Act.put, List.setIfInBounds_toArray, List.set_cons_zero, List.set_cons_succ]
  refine H_take 9 hT4 rfl (by kernel_rfl) (by kernel_rfl) (by kernel_rfl) (fun _ _ _ h => h) (by rfl) (by (intro w' hw'; (try dsimp only at hw'); go_simp; try with_reducible rfl)) ?_
  try simp only [Act.put, List.setIfInBounds_toArray, List.set_cons_zero, List.set_cons_succ]
  refine H_take 10 hT4 rfl (by kernel_rfl) (by kernel_rfl) (by kernel_rfl) (fun _ _ _ h => h) (by rfl) (by (intro w' hw'; (try dsimp only at hw'); go_simp; try with_reducible rfl)) ?_
  try simp only [Act.put, List.setIfInBounds_toArray, List.set_cons_zero, List.set_cons_succ]
  refine H_take 11 hT4 rfl (by kernel_rfl) (by kernel_rfl) (by kernel_rfl) (fun _ _ _ h => h) (by rfl) (by (intro w' hw'; (try dsimp only at hw'); go_simp; try with_reducible rfl)) ?_
  try simp only [Act.put, List.setIfInBounds_toArray, List.set_cons_zero, List.set_cons_succ]
  refine H_take 12 hT4 rfl (by kernel_rfl) (by kernel_rfl) (by kernel_rfl) (fun _ _ _ h => h) (by rfl) (by (intro w' hw'; (try dsimp only at hw'); go_simp; try with_reducible rfl)) ?_
  try simp only [Act.put, List.setIfInBounds_toArray, List.set_cons_zero, List.set_cons_succ]
  refine wpAnyH_done (by kernel_rfl) ?_ _
  have H4 := Lib.hid hT4.2
  clear hT4 c0 c1 c2' c3 c4 c5 c6 c7 c8 hsl
  obtain ⟨a3, c3, rfl, hl3, hc3, hbin3⟩ := (HF3.out.1.below (show Below w3.heap.size w3 w4 from ((Below.refl _ w3).drew).trans HB4.out)).binB (HZ.out.byt.append HBY.out) (by simp; omega)
  obtain ⟨a4, c4, rfl, _, _, hbin4⟩ := HS4.out.binB (HZ.out.byt.append HBY.out) (by simp; omega)
  have hcv1 := run_convert_bin w4 a3 (zs ++ bs).length c3 _ hbin3 rfl
  have hcv2 := run_convert_bin w4 a4 (zs ++ bs).length c4 _ hbin4 rfl
  have HZ3 := Lib.hid hbin3
  obtain ⟨a5, c5, ys, hys, hl5, hc5, hbin5, hsl5⟩ := sub_at a3 c3 (zs ++ bs) zs.length (by simp) hl3 hc3
  have hyb : ys = bs := by rw [hys]; simp
  have HZ5 := Lib.hid (hbin5 _ hbin3)
  subst hyb
  obtain ⟨b5, o5, rfl, _⟩ := HZ5.out 0 hbl
  have hln : (zs ++ ys).length = zs.length + ys.length := List.length_append
  generalize hN : (zs ++ ys).length = N at *
  have HN := Lib.hid hN
  have HLN := Lib.hid hln
  have hzN : (zs.length : Int) ≤ N := by omega
  clear hbin3 hbin4 hbin5 hys hN hln
  generalize txtB (zs ++ ys) = tx at hcv1 hcv2
  have HBS4 := Lib.hid (show w.heap.size ≤ w4.heap.size from H4.out.2.1.size)
  have hbm := HZ2.out
  go_wp2_with (first | (at_builtin; (refine wpList_append_bsn _ rfl (.const (.slice none 0 0)) (.tmp 63) rfl w.heap.size ys rfl ⟨b5, o5, none⟩ ys.length c5 rfl rfl (HZ5.out.cells ⟨b5, o5, none⟩ rfl) hbl (by omega) HBS4.out ?_; intro g cap w5 hap5)) | (at_builtin; (refine wpList_append_bs0 _ rfl (.tmp 64) (.tmp 65) rfl w.heap.size (.slice (some ⟨g, 0, none⟩) ys.length cap) ys rfl hap5.bs (by omega) a2 c2 rfl ?_)))
  have hbT := apn_below (Nat.le_refl _) ((by simpa using hap5 : Ap w4 w5 w.heap.size (.slice none 0 0) (.slice (some ⟨g, 0, none⟩) ys.length cap) (ys ++ [])))
  have hTT := ((by simpa using hap5 : Ap w4 w5 w.heap.size (.slice none 0 0) (.slice (some ⟨g, 0, none⟩) ys.length cap) (ys ++ []))).bs
  have hbyt : Byt (ys ++ ([] : List Int)) := (HBY.out : Byt _).append HZ2.out.byt
  obtain ⟨hn6, hl6, hc6, hbin6⟩ := hTT.at_ (by simp; omega) hbyt
  have H6 := Lib.hid (one9.keep hbT H4.out)
  have H6S := Lib.hid H6.out.2.2
  have HZ6 := Lib.hid hbin6
  have HRR := HRD.out
  obtain ⟨ck, ci, cf, cs, cl, hcl⟩ := V.parts (V.mk k i f s l).clean
  rw [hcl] at HRR
  have HCL := Lib.hid hcl
  clear hbT hTT hbyt hbin6 hbm hcv1 hcv2 hsl5 H4 HB4 HS4 HF3 H3 hcl hap5
  refine (ReadP2_n (N := ys.length) HRR hn6.symm ⟨by omega, hl6⟩ hc6 HZ6.out).mono ?_
  rintro e w7 ⟨sa7, sc7, rfl, hv7, hb7⟩
  dsimp only [V.k_mk, V.i_mk, V.f_mk, V.s_mk, V.l_mk] at hv7 ⊢
  have H7 := Lib.hid (one9.keep hb7 H6.out)
  have HV7 := Lib.hid hv7
  have HNN := Lib.hid hn6
  have HAA := Lib.hid ((Below.refl w7.heap.size w7).alloc (Nat.le_refl _) (.cells #[.int .u32 rc, .int .u32 rs_, .int .u16 rn, .int .i64 eN, .int .i64 ck, .int .i64 ci, .float .f64 cf, .string cs, .slice sa7 cl.length sc7] 45))
  have H8 := Lib.hid (one9.keep HAA.out H7.out)
  have HQ8 := Lib.hid (show ok9 (w7.alloc (.cells #[.int .u32 rc, .int .u32 rs_, .int .u16 rn, .int .i64 eN, .int .i64 ck, .int .i64 ci, .float .f64 cf, .string cs, .slice sa7 cl.length sc7] 45)) w7.heap.size rc rs_ rn eN ck ci cf cs (.slice sa7 cl.length sc7) from block_alloc_at _ rfl)
  have HV8 := Lib.hid (HV7.out.below HAA.out)
  obtain ⟨⟨⟨c0, c1, c2'⟩, c3, c4, c5, c6, c7, c8⟩, _, _⟩ := H8.out.1.cells
  have hw1 : IntKind.i64.wrap ((N : Int) - (zs.length : Int)) = (ys.length : Int) := by
    have := HLN.out
    rw [show (N : Int) - (zs.length : Int) = (ys.length : Int) by omega]
    exact IntWalk.i64_in _ (by omega)
  clear hb7 hv7 H6 hn6 hl6 hc6 HRR
  go_wp2_with fail
  generalize w7.alloc _ = w8 at *
  refine (clean1_c (V.mk k i f s l) w8 _ _ (HV.out.below H8.out.2.1)).mono ?_
  rintro e w9 ⟨sl9, rfl, hv9, hb9⟩
  rw [HCL.out] at hv9 ⊢
  simp only [V.k_mk, V.i_mk, V.f_mk, V.s_mk] at hv9 ⊢
  obtain ⟨sa9, sc9, rfl⟩ := hv9.form
  simp only [V.l_mk] at hv9 ⊢
  have H9 := Lib.hid (one9.keep hb9 H8.out)
  have HX9 := Lib.hid (show w9.heap[w.heap.size]? = _ from H9.out.1)
  have HQ9 := Lib.hid (show ok9 w9 w7.heap.size rc rs_ rn eN ck ci cf cs (.slice sa7 cl.length sc7) from block_below hb9 HQ8.out)
  have hwv : w.heap.size < w7.heap.size := H7.out.2.2
  have HVa := Lib.hid ((HV8.out.below hb9).keep (w' := ((((w9.setCell ⟨w.heap.size, 4, none⟩ (.int .i64 ck)).setCell ⟨w.heap.size, 5, none⟩ (.int .i64 ci)).setCell ⟨w.heap.size, 6, none⟩ (.float .f64 cf)).setCell ⟨w.heap.size, 7, none⟩ (.string cs)).setCell ⟨w.heap.size, 8, none⟩ (.slice sa9 cl.length sc9)) (D' := fun _ => True) (fun b hD _ => by
    have hne : b ≠ w.heap.size := Nat.ne_of_gt (Nat.lt_of_lt_of_le H6S.out hD)
    rw [Below.heap_setCell _ _ _ _ hne, Below.heap_setCell _ _ _ _ hne, Below.heap_setCell _ _ _ _ hne, Below.heap_setCell _ _ _ _ hne, Below.heap_setCell _ _ _ _ hne]) (fun _ _ _ => trivial))
  have HVb := Lib.hid (hv9.keep (w' := ((((w9.setCell ⟨w.heap.size, 4, none⟩ (.int .i64 ck)).setCell ⟨w.heap.size, 5, none⟩ (.int .i64 ci)).setCell ⟨w.heap.size, 6, none⟩ (.float .f64 cf)).setCell ⟨w.heap.size, 7, none⟩ (.string cs)).setCell ⟨w.heap.size, 8, none⟩ (.slice sa9 cl.length sc9)) (D' := fun _ => True) (fun b hD _ => by
    have hne : b ≠ w.heap.size := Nat.ne_of_gt (Nat.lt_of_lt_of_le H8.out.2.2 hD)
    rw [Below.heap_setCell _ _ _ _ hne, Below.heap_setCell _ _ _ _ hne, Below.heap_setCell _ _ _ _ hne, Below.heap_setCell _ _ _ _ hne, Below.heap_setCell _ _ _ _ hne]) (fun _ _ _ => trivial))
  obtain ⟨⟨_, _, d4, d5, d6, d7, d8⟩, hfd, hld⟩ := H9.out.1.cells
  have f4 := hfd 4
  have f5 := hfd 5
  have f6 := hfd 6
  have f7 := hfd 7
  have f8 := hfd 8
  obtain ⟨⟨⟨q0, q1, q2⟩, q3, q4, q5, q6, q7, q8⟩, _, _⟩ := HQ9.out.cells
  obtain ⟨⟨⟨d0, d1, d2⟩, d3, _⟩, _, _⟩ := H9.out.1.cells
  have hne1 : ¬ w7.heap.size = w.heap.size := by omega
  have hne2 : ¬ w.heap.size = w7.heap.size := by omega
  have HBX := Lib.hid (show Below w.heap.size w (((((w9.setCell ⟨w.heap.size, 4, none⟩ (.int .i64 ck)).setCell ⟨w.heap.size, 5, none⟩ (.int .i64 ci)).setCell ⟨w.heap.size, 6, none⟩ (.float .f64 cf)).setCell ⟨w.heap.size, 7, none⟩ (.string cs)).setCell ⟨w.heap.size, 8, none⟩ (.slice sa9 cl.length sc9)) from below5at4 H9.out.2.1)
  clear hb9 hv9 hfd c0 c1 c2' c3 c4 c5 c6 c7 c8
  go_wp2_with fail
  generalize ((((w9.setCell ⟨w.heap.size, 4, none⟩ (.int .i64 ck)).setCell ⟨w.heap.size, 5, none⟩ (.int .i64 ci)).setCell ⟨w.heap.size, 6, none⟩ (.float .f64 cf)).setCell ⟨w.heap.size, 7, none⟩ (.string cs)).setCell ⟨w.heap.size, 8, none⟩ (.slice sa9 cl.length sc9) = w10 at *
  refine (preply_c rc rs_ rn eN (V.mk ck ci cf cs cl) _ rc rs_ rn eN (V.mk ck ci cf cs cl) _ _ _ _ HVa.out HVb.out).mono ?_
  rintro e w11 ⟨rfl, hb11⟩
  rw [sameP_self]
  have HB11 := Lib.hid (HBX.out.trans (hb11.mono HBX.out.size))
  clear hb11
  go_wp2_with fail
  go_ret
  exact ⟨rfl, HB11.out⟩

theorem callReplies_c (a : Option Addr) (c : Nat) (zs : List Int) (rc rs_ rn : Nat) (re k i : Int) (f : Nat) (s : ByteArray) (l : List V) (va : Option Addr) (vc : Nat) (a2 : Option Addr) (c2 : Nat) (ms : List Int) (w : World)
    (hl : zs.length ≤ c ∧ c ≤ 9223372036854775807) (hc : a = none → c = 0) (hz : BIn w a zs) (hp : ∀ p, a = some p → p.block < w.heap.size) (hl2 : ms.length ≤ c2 ∧ c2 ≤ 9223372036854775807) (hc2 : a2 = none → c2 = 0) (hz2 : BIn w a2 ms) (hi : rc < 4294967296 ∧ rs_ < 4294967296 ∧ rn < 65536)
    (hv : VIn (fun _ => True) w (V.mk k i f s l) (.slice va l.length vc)) :
    Calls Try.prog 4 #[.slice a zs.length c, .agg #[.int .u32 rc, .int .u32 rs_, .int .u16 rn, .int .i64 re, .int .i64 k, .int .i64 i, .float .f64 f, .string s, .slice va l.length vc], .slice a2 ms.length c2] w fun e w' => e = .returned (.bool true) ∧ Below w.heap.size w w' := by
  cases h : (V.mk k i f s l).light with
  | false => exact callReplies_light a c zs rc rs_ rn re k i f s l va vc a2 c2 ms w hl hc hz hp hl2 hc2 hz2 hi hv h
  | true =>
    by_cases h2 : (100 : Int) < zs.length
    · exact callReplies_long a c zs rc rs_ rn re k i f s l va vc a2 c2 ms w hl hc hz hp hl2 hc2 hz2 hi hv h h2
    by_cases h3 : (100 : Int) < ms.length
    · exact callReplies_long2 a c zs rc rs_ rn re k i f s l va vc a2 c2 ms w hl hc hz hp hl2 hc2 hz2 hi hv h (by omega) h3
    by_cases he : re < 0 ∨ 65535 < re
    · exact callReplies_err a c zs rc rs_ rn re k i f s l va vc a2 c2 ms w hl hc hz hp hl2 hc2 hz2 hi hv h (by omega) (by omega) 22 (by decide) (by unfold rput; rw [if_pos he])
    · obtain ⟨eN, rfl⟩ : ∃ eN : Nat, re = eN := ⟨re.toNat, by omega⟩
      by_cases hch : (V.mk k i f s l).check = 0
      · have hput : rput zs rc rs_ rn eN (V.mk k i f s l) = (zs ++ (idB rc rs_ rn ++ beB eN 2 ++ (V.mk k i f s l).bytes), 0) := by
          unfold rput
          rw [if_neg he]
          unfold vput
          rw [if_pos hch]
          simp [List.append_assoc]
        have hzc := V.check_zero hch
        have hbl := V.bytes_length _ hzc.1
        have hby : Byt (idB rc rs_ rn ++ beB eN 2 ++ (V.mk k i f s l).bytes) := ((((beB_byt _ _).append (beB_byt _ _)).append (beB_byt _ _)).append (beB_byt _ _)).append (V.bytes_byt _ hzc.1)
        have hlen : (idB rc rs_ rn ++ beB eN 2 ++ (V.mk k i f s l).bytes).length = 12 + (V.mk k i f s l).bytes.length := by simp only [List.length_append, idB_length, beB_length]
        have hrd : rread (idB rc rs_ rn ++ beB eN 2 ++ (V.mk k i f s l).bytes ++ ms) = (⟨rc, rs_, rn, eN, (V.mk k i f s l).clean⟩, ((idB rc rs_ rn ++ beB eN 2 ++ (V.mk k i f s l).bytes).length : Int), 0) := rread_yes (rrd_put hi (by omega) hv.ok hch ms)
        by_cases hm : ms = []
        · exact callReplies_ok0 a c zs rc rs_ rn eN k i f s l va vc a2 c2 ms w hl hc hz hp hl2 hc2 hz2 hi hv h (by omega) (by omega) _ hput hby (by omega) (by omega) hrd hm
        · have hpos : 0 < ms.length := List.length_pos_iff.2 hm
          obtain ⟨bm, om, ha2, _⟩ := hz2 0 hpos
          exact callReplies_ok a c zs rc rs_ rn eN k i f s l va vc a2 c2 ms w hl hc hz hp hl2 hc2 hz2 hi hv h (by omega) (by omega) _ hput hby (by omega) (by omega) hrd bm om ha2 hpos
      · have hput : rput zs rc rs_ rn eN (V.mk k i f s l) = ([], (V.mk k i f s l).check) := by
          unfold rput
          rw [if_neg he]
          unfold vput
          rw [if_neg hch]
        exact callReplies_err a c zs rc rs_ rn eN k i f s l va vc a2 c2 ms w hl hc hz hp hl2 hc2 hz2 hi hv h (by omega) (by omega) _ hch hput
end Go.Proofs.Ytkhgbbloeeaceaa
