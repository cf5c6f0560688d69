/- Replies read, by the reference. -/
import Derived.Test.YtkhgbbloeeaceaaFf
namespace Go.Proofs.Ytkhgbbloeeaceaa
open Go Go.RowKit
set_option maxRecDepth 16000
attribute [local go_sem ↓] run_store_float

theorem Below3 {B : Nat} {w0 w b : _} {u0 u1 u2 : Value} (h : Below B w0 w) (hb : B ≤ b) : Below B w0 (((w.setCell ⟨b, 0, none⟩ u0).setCell ⟨b, 1, none⟩ u1).setCell ⟨b, 2, none⟩ u2) :=
  ((h.setCell hb _).setCell hb _).setCell hb _
theorem frz_of {w : World} {b : Nat} {cs : Array Value} {t : TypeId} (h : w.heap[b]? = some (.cells cs t)) : ∀ n, w.frozen? ⟨b, n, none⟩ = false := fun n => by simp [World.frozen?, h]
def RetId (w : World) (zs : List Int) (e : Ending) (w' : World) : Prop := Below w.heap.size w w' ∧
  if zs.length < 10 then e = .returned (.tuple #[.agg #[.int .u32 0, .int .u32 0, .int .u16 0], .bool false])
  else e = .returned (.tuple #[.agg #[.int .u32 (idc zs), .int .u32 (ids zs), .int .u16 (idn zs)], .bool true])
theorem readU1_n {a : Option Addr} {c N : Nat} {zs : List Int} {n : Int} {k : Nat} {w : World} {u : Nat} (hk : n = k) (hn : k ≤ 8) (hr : beN (zs.take k) = u) (hN : zs.length = N) (h : k ≤ N) (hl : N ≤ 9223372036854775807) (hz : BIn w a zs) :
    Calls Try.prog 44 #[.slice a N c, .int .i64 n] w fun e w' => e = .returned (.tuple #[.int .u64 u, .bool true]) ∧ w = w' := by
  subst hN
  subst hk
  have := readU1_c a c zs k w hl hz
  have e : readU zs k = (u, true) := by unfold readU; rw [if_neg (by omega)]; subst hr; rfl
  rw [e] at this
  exact this

theorem readId1_c (a : Option Addr) (c : Nat) (zs : List Int) (w : World) (hl : zs.length ≤ c ∧ c ≤ 9223372036854775807) (hc : a = none → c = 0) (hz : BIn w a zs) :
    Calls Try.prog 39 #[.slice a zs.length c] w (RetId w zs) := by
  have HZ := Lib.hid hz
  have HBY := Lib.hid hz.byt
  have HAL := Lib.hid ((Below.refl w.heap.size w).alloc (Nat.le_refl _) (.cells #[.int .u32 0, .int .u32 0, .int .u16 0] 26))
  have HRS := Lib.hid (at3_of (w := w.alloc (.cells #[.int .u32 0, .int .u32 0, .int .u16 0] 26)) (b := w.heap.size) (block_alloc_at _ rfl))
  have hfr : ∀ n, (w.alloc (.cells #[.int .u32 0, .int .u32 0, .int .u16 0] 26)).frozen? ⟨w.heap.size, n, none⟩ = false := frz_of (block_alloc_at (w := w) (.cells #[.int .u32 0, .int .u32 0, .int .u16 0] 26) rfl)
  have f0 := hfr 0
  have f1 := hfr 1
  have f2 := hfr 2
  obtain ⟨r0, r1, r2⟩ := HRS.out
  have hrl : w.heap.size < (w.alloc (.cells #[.int .u32 0, .int .u32 0, .int .u16 0] 26)).heap.size := by simp
  clear hz hfr
  by_cases h10 : zs.length < 10
  · go_enter Try.func39, Try.ntmps39
    go_wp2_with fail
    exact bodyPost_ret (v := .tuple #[.agg #[.int .u32 0, .int .u32 0, .int .u16 0], .bool false]) (by simp [results, Try.results39, go_sem, r0, r1, r2]) rfl ⟨HAL.out, by rw [if_pos h10]⟩
  · have hi1 := idc_lt HBY.out
    have hi2 := ids_lt HBY.out
    have hi3 := idn_lt HBY.out
    obtain ⟨a4, c4, y4, hy4, hl4, hc4, hbin4, hsl4⟩ := sub_at a c zs 4 (by omega) hl hc
    obtain ⟨a8, c8, y8, hy8, hl8, hc8, hbin8, hsl8⟩ := sub_at a c zs 8 (by omega) hl hc
    have hyl4 : y4.length = zs.length - 4 := by rw [hy4, List.length_drop]
    have hyl8 : y8.length = zs.length - 8 := by rw [hy8, List.length_drop]
    have e1 : beN (zs.take 4) = idc zs := rfl
    have e2 : beN (y4.take 4) = ids zs := by rw [hy4]; rfl
    have e3 : beN (y8.take 2) = idn zs := by rw [hy8]; rfl
    have HBI := Lib.hid (And.intro (hbin4 _ (HZ.out.below HAL.out)) (hbin8 _ (HZ.out.below HAL.out)))
    have HPST := Lib.hid (show ∀ (w' : World) (v : Value), Below w.heap.size w w' → v = .tuple #[.agg #[.int .u32 (idc zs), .int .u32 (ids zs), .int .u16 (idn zs)], .bool true] → RetId w zs (.returned v) w' from fun w' v hb hv => ⟨hb, by rw [if_neg h10, hv]⟩)
    generalize idc zs = i1 at *
    generalize ids zs = i2 at *
    generalize idn zs = i3 at *
    generalize hN : zs.length = N at *
    have HY := Lib.hid (And.intro hyl4 hyl8)
    have HE := Lib.hid (And.intro e1 (And.intro e2 e3))
    have HN := Lib.hid hN
    have q7 : (i1 : Int) % 4294967296 = i1 := by omega
    have q8 : (i2 : Int) % 4294967296 = i2 := by omega
    have q9 : (i3 : Int) % 65536 = i3 := by omega
    have q1 := wrap_u32 _ hi1
    have q2 := wrap_u32 _ hi2
    have q3 := wrap_u16 _ hi3
    have hs4 : ∀ w : World, (Instr.slice 22 (.slice a N c) (some (.int .i64 4)) none none).run Try.prog w = .ok (.slice a4 y4.length c4) w := hsl4
    have hs8 : ∀ w : World, (Instr.slice 22 (.slice a N c) (some (.int .i64 8)) none none).run Try.prog w = .ok (.slice a8 y8.length c8) w := hsl8
    clear hyl4 hyl8 e1 e2 e3 hy4 hy8 hbin4 hbin8 hN hsl4 hsl8
    go_enter Try.func39, Try.ntmps39
    go_wp2_with fail
    generalize w.alloc _ = w0 at *
    refine (readU1_n (k := 4) rfl (by omega) HE.out.1 HN.out (by omega) (by omega) (HZ.out.below HAL.out)).mono ?_
    rintro e w' ⟨rfl, rfl⟩
    go_wp2_with fail
    refine (readU1_n (k := 4) rfl (by omega) HE.out.2.1 rfl (by have := HY.out.1; omega) (by have := HY.out.1; omega) HBI.out.1).mono ?_
    rintro e w' ⟨rfl, rfl⟩
    go_wp2_with fail
    refine (readU1_n (k := 2) rfl (by omega) HE.out.2.2 rfl (by have := HY.out.2; omega) (by have := HY.out.2; omega) HBI.out.2).mono ?_
    rintro e w' ⟨rfl, rfl⟩
    go_wp2_with fail
    exact bodyPost_ret (v := .tuple #[.agg #[.int .u32 i1, .int .u32 i2, .int .u16 i3], .bool true]) (by simp [results, Try.results39, go_sem, r0, r1, r2]) rfl (HPST.out _ _ (Below3 HAL.out (Nat.le_refl _)) rfl)
end Go.Proofs.Ytkhgbbloeeaceaa
namespace Go.Proofs.Ytkhgbbloeeaceaa
open Go Go.RowKit
attribute [local go_sem ↓] run_store_float

theorem below9 {B : Nat} {w0 w : World} {u0 u1 u2 u3 u4 u5 u6 u7 u8 : Value} (h : Below B w0 w) : Below B w0 (((((((((w.setCell ⟨B, 0, none⟩ u0).setCell ⟨B, 1, none⟩ u1).setCell ⟨B, 2, none⟩ u2).setCell ⟨B, 3, none⟩ u3).setCell ⟨B, 4, none⟩ u4).setCell ⟨B, 5, none⟩ u5).setCell ⟨B, 6, none⟩ u6).setCell ⟨B, 7, none⟩ u7).setCell ⟨B, 8, none⟩ u8) :=
  ((((((((h.setCell (Nat.le_refl B) _).setCell (Nat.le_refl B) _).setCell (Nat.le_refl B) _).setCell (Nat.le_refl B) _).setCell (Nat.le_refl B) _).setCell (Nat.le_refl B) _).setCell (Nat.le_refl B) _).setCell (Nat.le_refl B) _).setCell (Nat.le_refl B) _
theorem VIn.set9 {B B2 : Nat} {w : World} {t : V} {sl : Value} {u0 u1 u2 u3 u4 u5 u6 u7 u8 : Value} (h : VIn (fun b => B2 ≤ b) w t sl) (hb : B < B2) : VIn (fun b => B ≤ b) (((((((((w.setCell ⟨B, 0, none⟩ u0).setCell ⟨B, 1, none⟩ u1).setCell ⟨B, 2, none⟩ u2).setCell ⟨B, 3, none⟩ u3).setCell ⟨B, 4, none⟩ u4).setCell ⟨B, 5, none⟩ u5).setCell ⟨B, 6, none⟩ u6).setCell ⟨B, 7, none⟩ u7).setCell ⟨B, 8, none⟩ u8) t sl := by
  refine h.keep (fun b hD _ => ?_) (fun b hD _ => Nat.le_of_lt (Nat.lt_of_lt_of_le hb hD))
  have hne : b ≠ B := Nat.ne_of_gt (Nat.lt_of_lt_of_le hb hD)
  rw [Below.heap_setCell _ _ _ _ hne, Below.heap_setCell _ _ _ _ hne, Below.heap_setCell _ _ _ _ hne, Below.heap_setCell _ _ _ _ hne, Below.heap_setCell _ _ _ _ hne, Below.heap_setCell _ _ _ _ hne, Below.heap_setCell _ _ _ _ hne, Below.heap_setCell _ _ _ _ hne, Below.heap_setCell _ _ _ _ hne]

set_option maxHeartbeats 1600000 in
theorem ReadP1_c (a : Option Addr) (c : Nat) (zs : List Int) (w : World) (hl : zs.length ≤ c ∧ c ≤ 9223372036854775807) (hc : a = none → c = 0) (hz : BIn w a zs) :
    Calls Try.prog 15 #[.slice a zs.length c] w (RetP w (rread zs)) := by
  have HZ := Lib.hid hz
  have HBY := Lib.hid hz.byt
  generalize hr : rread zs = r
  have HR := Lib.hid hr.symm
  have HAL := Lib.hid ((Below.refl w.heap.size w).alloc (Nat.le_refl _) (.cells #[.int .u32 0, .int .u32 0, .int .u16 0, .int .i64 0, .int .i64 0, .int .i64 0, .float .f64 0, .string ⟨#[]⟩, .slice none 0 0] 45))
  have HRS0 := Lib.hid (block_alloc_at (w := w) (.cells #[.int .u32 0, .int .u32 0, .int .u16 0, .int .i64 0, .int .i64 0, .int .i64 0, .float .f64 0, .string ⟨#[]⟩, .slice none 0 0] 45) rfl)
  have hrl : w.heap.size < (w.alloc (.cells #[.int .u32 0, .int .u32 0, .int .u16 0, .int .i64 0, .int .i64 0, .int .i64 0, .float .f64 0, .string ⟨#[]⟩, .slice none 0 0] 45)).heap.size := by simp
  clear hz hr
  go_enter Try.func15, Try.ntmps15
  go_wp2_with fail
  generalize w.alloc _ = w0 at *
  refine (readId1_c a c zs w0 hl hc (HZ.out.below HAL.out)).mono ?_
  rintro e w1 ⟨hb1, h1⟩
  by_cases h10 : zs.length < 10
  · rw [if_pos h10] at h1
    subst h1
    have HF := Lib.hid (show r = (⟨0, 0, 0, 0, V.nil⟩, 0, 20) by rw [HR.out]; exact rread_no (rrd_short (by omega)))
    have HB1 := Lib.hid (HAL.out.trans (hb1.mono HAL.out.size))
    have HRS1 := Lib.hid (block_below hb1 HRS0.out)
    have HA2 := Lib.hid (fun o => ((Below.refl w1.heap.size w1).alloc (Nat.le_refl _) o : Below w1.heap.size w1 (w1.alloc o)))
    clear hb1
    have HRX := Lib.hid (fun o => (show ok9 (w1.alloc o) w.heap.size 0 0 0 0 0 0 0 ⟨#[]⟩ (.slice none 0 0) from block_below (HA2.out o) HRS1.out))
    obtain ⟨⟨⟨c0, c1, c2⟩, c3, c4, c5, c6, c7, c8⟩, hfz, hlz⟩ := (HRX.out (.cells #[.int .u32 0, .int .u32 0, .int .u16 0] 26)).cells
    have f0 := hfz 0
    have f1 := hfz 1
    have f2 := hfz 2
    have f3 := hfz 3
    have f4 := hfz 4
    have f5 := hfz 5
    have f6 := hfz 6
    have f7 := hfz 7
    have f8 := hfz 8
    clear hfz
    go_wp2_with fail
    exact bodyPost_ret (v := .tuple #[.agg #[.int .u32 0, .int .u32 0, .int .u16 0, .int .i64 0, .int .i64 0, .int .i64 0, .float .f64 0, .string ⟨#[]⟩, .slice none 0 0], .int .i64 0, .int .i64 20]) (by simp [results, Try.results15, go_sem, c0, c1, c2, c3, c4, c5, c6, c7, c8]) rfl (RetP.mk none 0 HF.out rfl VIn.nil (by exact below9 (HB1.out.trans ((HA2.out _).mono HB1.out.size))))
  rw [if_neg h10] at h1
  subst h1
  have hi1 := idc_lt HBY.out
  have hi2 := ids_lt HBY.out
  have hi3 := idn_lt HBY.out
  have HB1 := Lib.hid (HAL.out.trans (hb1.mono HAL.out.size))
  have HRS1 := Lib.hid (block_below hb1 HRS0.out)
  have HRL1 := Lib.hid (Nat.lt_of_lt_of_le hrl hb1.size)
  clear hb1
  by_cases h12 : zs.length < 12
  · have HF := Lib.hid (show r = (⟨0, 0, 0, 0, V.nil⟩, 0, 20) by rw [HR.out]; exact rread_no (rrd_short h12))
    have HA2 := Lib.hid (fun o => ((Below.refl w1.heap.size w1).alloc (Nat.le_refl _) o : Below w1.heap.size w1 (w1.alloc o)))
    have HRX := Lib.hid (fun o => (show ok9 (w1.alloc o) w.heap.size 0 0 0 0 0 0 0 ⟨#[]⟩ (.slice none 0 0) from block_below (HA2.out o) HRS1.out))
    generalize idc zs = i1 at *
    generalize ids zs = i2 at *
    generalize idn zs = i3 at *
    obtain ⟨⟨⟨c0, c1, c2⟩, c3, c4, c5, c6, c7, c8⟩, hfz, hlz⟩ := (HRX.out (.cells #[.int .u32 i1, .int .u32 i2, .int .u16 i3] 26)).cells
    have f0 := hfz 0
    have f1 := hfz 1
    have f2 := hfz 2
    have f3 := hfz 3
    have f4 := hfz 4
    have f5 := hfz 5
    have f6 := hfz 6
    have f7 := hfz 7
    have f8 := hfz 8
    clear hfz
    go_wp2_with fail
    exact bodyPost_ret (v := .tuple #[.agg #[.int .u32 0, .int .u32 0, .int .u16 0, .int .i64 0, .int .i64 0, .int .i64 0, .float .f64 0, .string ⟨#[]⟩, .slice none 0 0], .int .i64 0, .int .i64 20]) (by simp [results, Try.results15, go_sem, c0, c1, c2, c3, c4, c5, c6, c7, c8]) rfl (RetP.mk none 0 HF.out rfl VIn.nil (by exact below9 (HB1.out.trans ((HA2.out _).mono HB1.out.size))))
  obtain ⟨aa, ca, ya, hya, hla, hca, hbina, hsla⟩ := sub_at a c zs 10 (by omega) hl hc
  obtain ⟨ab, cb, yb, hyb, hlb, hcb, hbinb, hslb⟩ := sub_at a c zs 12 (by omega) hl hc
  have hyla : ya.length = zs.length - 10 := by rw [hya, List.length_drop]
  have e1 : beN (ya.take 2) = beN ((zs.drop 10).take 2) := by rw [hya]
  have hub := beN_top (zs.drop 10) (fun z h => HBY.out z (List.mem_of_mem_drop h)) 2
  generalize hue : beN ((zs.drop 10).take 2) = u at e1 hub
  have hu2 : u < 65536 := hub
  have HU := Lib.hid hue
  have HE := Lib.hid (And.intro e1 hyla)
  generalize hq1 : idc zs = i1 at *
  generalize hq2 : ids zs = i2 at *
  generalize hq3 : idn zs = i3 at *
  have HQI := Lib.hid (And.intro hq1 (And.intro hq2 hq3))
  have HA2 := Lib.hid ((Below.refl w1.heap.size w1).alloc (Nat.le_refl _) (.cells #[.int .u32 i1, .int .u32 i2, .int .u16 i3] 26))
  have HI2 := Lib.hid (block_alloc_at (w := w1) (.cells #[.int .u32 i1, .int .u32 i2, .int .u16 i3] 26) rfl)
  have HB2 := Lib.hid (HB1.out.trans (HA2.out.mono HB1.out.size))
  have HRS2 := Lib.hid (block_below HA2.out HRS1.out)
  have HBI := Lib.hid (And.intro (hbina _ (HZ.out.below HB2.out)) (hbinb _ (HZ.out.below HB2.out)))
  have hs10 : ∀ w : World, (Instr.slice 22 (.slice a zs.length c) (some (.int .i64 10)) none none).run Try.prog w = .ok (.slice aa ya.length ca) w := hsla
  have hs12 : ∀ w : World, (Instr.slice 22 (.slice a zs.length c) (some (.int .i64 12)) none none).run Try.prog w = .ok (.slice ab yb.length cb) w := hslb
  have HYB := Lib.hid hyb
  have hw64 : wrap64 (u : Int) = u := by unfold wrap64; omega
  clear e1 hyla hya hyb hbina hbinb hsla hslb hue hub hq1 hq2 hq3
  go_wp2_with fail
  generalize w1.alloc _ = w2 at *
  refine (readU1_n (k := 2) rfl (by omega) HE.out.1 rfl (by have := HE.out.2; omega) (by have := HE.out.2; omega) HBI.out.1).mono ?_
  rintro e w' ⟨rfl, rfl⟩
  go_wp2_with fail
  cases hx : vrd (zs.drop 12) with
  | none =>
    have HF := Lib.hid (show r = (⟨0, 0, 0, 0, V.nil⟩, 0, 20) by rw [HR.out]; exact rread_no (rrd_no h12 hx))
    have hR := Read1_c ab cb yb w2 hlb hcb HBI.out.2
    rw [HYB.out, vread_same, vread_vrd, hx, ← HYB.out] at hR
    refine hR.mono ?_
    rintro e w3 ⟨sa, sc, rfl, hv3, hb3⟩
    have HB3 := Lib.hid (HB2.out.trans (hb3.mono HB2.out.size))
    have HA4 := Lib.hid (fun o => ((Below.refl w3.heap.size w3).alloc (Nat.le_refl _) o : Below w3.heap.size w3 (w3.alloc o)))
    have HRX := Lib.hid (fun o => (show ok9 (w3.alloc o) w.heap.size 0 0 0 0 0 0 0 ⟨#[]⟩ (.slice none 0 0) from block_below (HA4.out o) (block_below hb3 HRS2.out)))
    simp only [V.nil, V.k_mk, V.i_mk, V.f_mk, V.s_mk, V.l_mk, List.length_nil]
    obtain ⟨⟨⟨c0, c1, c2⟩, c3, c4, c5, c6, c7, c8⟩, hfz, hlz⟩ := (HRX.out (.cells #[.int .i64 0, .int .i64 0, .float .f64 0, .string ⟨#[]⟩, .slice sa 0 sc] 43)).cells
    have f0 := hfz 0
    have f1 := hfz 1
    have f2 := hfz 2
    have f3 := hfz 3
    have f4 := hfz 4
    have f5 := hfz 5
    have f6 := hfz 6
    have f7 := hfz 7
    have f8 := hfz 8
    clear hfz hb3 hv3 hR hx
    go_wp2_with fail
    exact bodyPost_ret (v := .tuple #[.agg #[.int .u32 0, .int .u32 0, .int .u16 0, .int .i64 0, .int .i64 0, .int .i64 0, .float .f64 0, .string ⟨#[]⟩, .slice none 0 0], .int .i64 0, .int .i64 20]) (by simp [results, Try.results15, go_sem, c0, c1, c2, c3, c4, c5, c6, c7, c8]) rfl (RetP.mk none 0 HF.out rfl VIn.nil (by exact below9 (HB3.out.trans ((HA4.out _).mono HB3.out.size))))
  | some p =>
    obtain ⟨⟨vk, vi, vf, vs, vl⟩, q⟩ := p
    have HF := Lib.hid (show r = (⟨i1, i2, i3, u, V.mk vk vi vf vs vl⟩, ((12 + q : Nat) : Int), 0) by rw [HR.out, rread_yes (rrd_yes h12 hx), HQI.out.1, HQI.out.2.1, HQI.out.2.2, HU.out])
    have hqb := vrd_le _ _ _ hx
    have hR := Read1_c ab cb yb w2 hlb hcb HBI.out.2
    rw [HYB.out, vread_same, vread_vrd, hx, ← HYB.out] at hR
    refine hR.mono ?_
    rintro e w3 ⟨sa, sc, rfl, hv3, hb3⟩
    rw [List.length_drop] at hqb
    simp only [V.k_mk, V.i_mk, V.f_mk, V.s_mk, V.l_mk] at hv3 ⊢
    have HB3 := Lib.hid (HB2.out.trans (hb3.mono HB2.out.size))
    have HA4 := Lib.hid ((Below.refl w3.heap.size w3).alloc (Nat.le_refl _) (.cells #[.int .i64 vk, .int .i64 vi, .float .f64 vf, .string vs, .slice sa vl.length sc] 43))
    have HRX := Lib.hid (show ok9 (w3.alloc (.cells #[.int .i64 vk, .int .i64 vi, .float .f64 vf, .string vs, .slice sa vl.length sc] 43)) w.heap.size 0 0 0 0 0 0 0 ⟨#[]⟩ (.slice none 0 0) from block_below HA4.out (block_below hb3 HRS2.out))
    have HV4 := Lib.hid (hv3.below HA4.out)
    have hi4 := at3_of (block_below HA4.out (block_below hb3 HI2.out))
    obtain ⟨j0, j1, j2⟩ := hi4
    obtain ⟨⟨v0, v1, v2, v3, v4⟩, _⟩ := cells_of_block5 (block_alloc_at (w := w3) (.cells #[.int .i64 vk, .int .i64 vi, .float .f64 vf, .string vs, .slice sa vl.length sc] 43) rfl)
    have HB4 := Lib.hid (HB3.out.trans (HA4.out.mono HB3.out.size))
    have HWL := Lib.hid (show w.heap.size < w2.heap.size from Nat.lt_of_lt_of_le HRL1.out HA2.out.size)
    obtain ⟨⟨⟨c0, c1, c2⟩, c3, c4, c5, c6, c7, c8⟩, hfz, hlz⟩ := HRX.out.cells
    have f0 := hfz 0
    have f1 := hfz 1
    have f2 := hfz 2
    have f3 := hfz 3
    have f4 := hfz 4
    have f5 := hfz 5
    have f6 := hfz 6
    have f7 := hfz 7
    have f8 := hfz 8
    have hn1 : ¬ w.heap.size = w1.heap.size := Nat.ne_of_lt HRL1.out
    clear hfz hb3 hv3 hR hx
    go_wp2_with fail
    generalize w3.alloc _ = w4 at *
    have hq12 : (12 : Int) + (q : Int) = ((12 + q : Nat) : Int) := by omega
    rw [hq12]
    exact bodyPost_ret (v := .tuple #[.agg #[.int .u32 i1, .int .u32 i2, .int .u16 i3, .int .i64 u, .int .i64 vk, .int .i64 vi, .float .f64 vf, .string vs, .slice sa vl.length sc], .int .i64 ((12 + q : Nat) : Int), .int .i64 0]) (by simp [results, Try.results15, go_sem, c0, c1, c2, c3, c4, c5, c6, c7, c8]) rfl (RetP.mk sa sc HF.out rfl (by exact HV4.out.set9 HWL.out) (by exact below9 HB4.out))
end Go.Proofs.Ytkhgbbloeeaceaa
