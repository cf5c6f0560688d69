/- The reader: values. -/
import Derived.Test.YtkhgbbloeeaceaaRa
import Derived.Outline
namespace Go.Proofs.Ytkhgbbloeeaceaa
open Go Go.RowKit
set_option maxRecDepth 16000
attribute [local go_sem ↓] run_store_float

/-- A value is read, or it is the end. -/
def RetV2 (w : World) (rb : Nat) (a : Option Addr) (N c l : Nat) (d : Nat) (r : Option (V × Nat)) (e : Ending) (w' : World) : Prop := But rb w w' ∧ match r with
  | none => e = .panicked [shortP]
  | some (v, n) => ∃ (sa : Option Addr) (sc : Nat), e = .returned (.agg #[.int .i64 v.k, .int .i64 v.i, .float .f64 v.f, .string v.s, .slice sa v.l.length sc]) ∧ VIn (fun b => w.heap.size ≤ b) w' v (.slice sa v.l.length sc) ∧ rbk w' rb a N c ((l + n : Nat) : Int) d
theorem RetV2.no {w : World} {rb : Nat} {a : Option Addr} {N c l d : Nat} {r w'} (hr : r = none) (hb : But rb w w') : RetV2 w rb a N c l d r (.panicked [shortP]) w' := by
  subst hr; exact ⟨hb, rfl⟩
theorem RetV2.mk {w : World} {rb : Nat} {a : Option Addr} {N c l d : Nat} {r w'} {k i : Int} {f : Nat} {s : ByteArray} {vl : List V} {len : Nat} (sa : Option Addr) (sc n : Nat) (hr : r = some (V.mk k i f s vl, n)) (hlen : len = vl.length)
    (hv : VIn (fun b => w.heap.size ≤ b) w' (V.mk k i f s vl) (.slice sa len sc)) (hk : rbk w' rb a N c ((l + n : Nat) : Int) d) (hb : But rb w w') :
    RetV2 w rb a N c l d r (.returned (.agg #[.int .i64 k, .int .i64 i, .float .f64 f, .string s, .slice sa len sc])) w' := by
  subst hr; subst hlen
  exact ⟨hb, sa, sc, rfl, hv, hk⟩
theorem But.set_new {rb w w' b} (h : But rb w w') (hb : w.heap.size ≤ b) (o : Nat) (v : Value) : But rb w (w'.setCell ⟨b, o, none⟩ v) :=
  ⟨h.os, h.tape, h.output, by simpa using h.size, fun k hk hne => by rw [Below.heap_setCell _ _ _ _ (show k ≠ b by omega), h.block k hk hne]⟩
theorem But.alloc {rb w w'} (h : But rb w w') (o : Obj) : But rb w (w'.alloc o) := h.trans (But.of_below ((Below.refl _ _).alloc (Nat.le_refl _) o))
theorem But.set5 {rb w w' b} (h : But rb w w') (hb : w.heap.size ≤ b) (u0 u1 u2 u3 u4 : Value) : But rb w (((((w'.setCell ⟨b, 0, none⟩ u0).setCell ⟨b, 1, none⟩ u1).setCell ⟨b, 2, none⟩ u2).setCell ⟨b, 3, none⟩ u3).setCell ⟨b, 4, none⟩ u4) :=
  ((((h.set_new hb _ _).set_new hb _ _).set_new hb _ _).set_new hb _ _).set_new hb _ _
theorem rbk.set_far {w rb a len c at_ d} (h : rbk w rb a len c at_ d) {b : Nat} (hne : rb ≠ b) (o : Nat) (v : Value) : rbk (w.setCell ⟨b, o, none⟩ v) rb a len c at_ d := block_setCell hne h
theorem rbk.set5 {w rb a len c at_ d} (h : rbk w rb a len c at_ d) {b : Nat} (hne : rb ≠ b) (u0 u1 u2 u3 u4 : Value) : rbk (((((w.setCell ⟨b, 0, none⟩ u0).setCell ⟨b, 1, none⟩ u1).setCell ⟨b, 2, none⟩ u2).setCell ⟨b, 3, none⟩ u3).setCell ⟨b, 4, none⟩ u4) rb a len c at_ d :=
  ((((h.set_far hne _ _).set_far hne _ _).set_far hne _ _).set_far hne _ _).set_far hne _ _
theorem rbk.alloc {w rb a len c at_ d} (h : rbk w rb a len c at_ d) (o : Obj) : rbk (w.alloc o) rb a len c at_ d := block_alloc_old _ h

set_option maxHeartbeats 1600000 in
theorem value_k0 (d : Nat) (rb : Nat) (a : Option Addr) (c : Nat) (zs : List Int) (l : Nat) (w : World) (r : List Int) (hl : zs.length ≤ 140737488355328 ∧ zs.length ≤ c ∧ c ≤ 9223372036854775807) (hc : a = none → c = 0) (hr : rbk w rb a zs.length c l d) (hz : BIn w a zs) (hdr : zs.drop l = (0 : Int) :: r) :
    Calls Try.prog 86 #[.pointer (some ⟨rb, 0, none⟩)] w (RetV2 w rb a zs.length c l d (rd true (d + 1) ((0 : Int) :: r))) := by
  have HRD := Lib.hid (rd_cons true d (0 : Int) r)
  have hd0 : zs.drop l = (0 : Int) :: r := hdr
  have hll : l + 1 ≤ zs.length := by have := congrArg List.length hd0; simp at this; omega
  have hbe : beN ((zs.drop l).take 1) = (0 : Int) := by rw [hd0]; simp [beN]
  have HBE := Lib.hid hbe
  generalize hre : rd true (d + 1) ((0 : Int) :: r) = res at HRD ⊢
  have HD0 := Lib.hid hd0
  have HZ := Lib.hid hz
  have HR0 := Lib.hid hr
  have HC := Lib.hid hc
  have hrlt := hr.cells.2.2
  clear hre hd0 hbe hz hr hc hdr
  have HAL := Lib.hid (fun o => ((Below.refl w.heap.size w).alloc (Nat.le_refl _) o : Below w.heap.size w (w.alloc o)))
  go_enter Try.func86, Try.ntmps86
  go_wp2_with fail
  refine (number_ok rb a c zs l d 1 _ (by omega) hl (by omega) HC.out (HR0.out.below (HAL.out _)) (HZ.out.below (HAL.out _)) hll).mono ?_
  rintro e w1 ⟨rfl, hr1, hb1⟩
  rw [HBE.out]
  have hR1 : w1.heap[w.heap.size]? = some (.cells #[.int .i64 0, .int .i64 0, .float .f64 0, .string ⟨#[]⟩, .slice none 0 0] 43) := hb1.obj (Nat.ne_of_gt hrlt) (block_alloc_at _ rfl)
  have HR1 := Lib.hid hR1
  have HK1 := Lib.hid hr1
  have hbw1 : But rb w w1 := (But.of_below (HAL.out _)).trans hb1
  have HB1 := Lib.hid hbw1
  have HZ1 := Lib.hid ((HZ.out.below (HAL.out _)).but (HR0.out.below (HAL.out _)) hb1)
  obtain ⟨⟨r0, r1, r2, r3, r4⟩, hfr⟩ := cells_of_block5 hR1
  have hz1 : w.heap.size < w1.heap.size := World.block_lt_of_cell? _ _ r0
  have hne : rb ≠ w.heap.size := Nat.ne_of_lt hrlt
  have HNE := Lib.hid hne
  have hrl : r.length + l + 1 = zs.length := by have := congrArg List.length HD0.out; simp at this; omega
  have HDR := Lib.hid (show zs.drop (l + 1) = r by rw [← List.drop_drop, HD0.out]; rfl)
  have HAL1 := Lib.hid (fun o => ((Below.refl w1.heap.size w1).alloc (Nat.le_refl _) o : Below w1.heap.size w1 (w1.alloc o)))
  clear hR1 hr1 hb1 hbw1 hne
  have HF := Lib.hid (show res = some (V.mk 0 0 0 ⟨#[]⟩ [], 1) by rw [HRD.out]; rfl)
  go_wp2_with fail
  exact bodyPost_ret (v := .agg #[.int .i64 0, .int .i64 0, .float .f64 0, .string ⟨#[]⟩, .slice none 0 0]) (by simp [results, Try.results86, go_sem, r0, r1, r2, r3, r4, World.cell?_alloc_past, hz1]) rfl
    (RetV2.mk none 0 1 HF.out rfl VIn.nil ((HK1.out.set5 HNE.out _ _ _ _ _).alloc _) ((HB1.out.set5 (Nat.le_refl _) _ _ _ _ _).alloc _))

set_option maxHeartbeats 1600000 in
theorem value_k1 (d : Nat) (rb : Nat) (a : Option Addr) (c : Nat) (zs : List Int) (l : Nat) (w : World) (r : List Int) (hl : zs.length ≤ 140737488355328 ∧ zs.length ≤ c ∧ c ≤ 9223372036854775807) (hc : a = none → c = 0) (hr : rbk w rb a zs.length c l d) (hz : BIn w a zs) (hdr : zs.drop l = (1 : Int) :: r) :
    Calls Try.prog 86 #[.pointer (some ⟨rb, 0, none⟩)] w (RetV2 w rb a zs.length c l d (rd true (d + 1) ((1 : Int) :: r))) := by
  have HRD := Lib.hid (rd_cons true d (1 : Int) r)
  have hd0 : zs.drop l = (1 : Int) :: r := hdr
  have hll : l + 1 ≤ zs.length := by have := congrArg List.length hd0; simp at this; omega
  have hbe : beN ((zs.drop l).take 1) = (1 : Int) := by rw [hd0]; simp [beN]
  have HBE := Lib.hid hbe
  generalize hre : rd true (d + 1) ((1 : Int) :: r) = res at HRD ⊢
  have HD0 := Lib.hid hd0
  have HZ := Lib.hid hz
  have HR0 := Lib.hid hr
  have HC := Lib.hid hc
  have hrlt := hr.cells.2.2
  clear hre hd0 hbe hz hr hc hdr
  have HAL := Lib.hid (fun o => ((Below.refl w.heap.size w).alloc (Nat.le_refl _) o : Below w.heap.size w (w.alloc o)))
  go_enter Try.func86, Try.ntmps86
  go_wp2_with fail
  refine (number_ok rb a c zs l d 1 _ (by omega) hl (by omega) HC.out (HR0.out.below (HAL.out _)) (HZ.out.below (HAL.out _)) hll).mono ?_
  rintro e w1 ⟨rfl, hr1, hb1⟩
  rw [HBE.out]
  have hR1 : w1.heap[w.heap.size]? = some (.cells #[.int .i64 0, .int .i64 0, .float .f64 0, .string ⟨#[]⟩, .slice none 0 0] 43) := hb1.obj (Nat.ne_of_gt hrlt) (block_alloc_at _ rfl)
  have HR1 := Lib.hid hR1
  have HK1 := Lib.hid hr1
  have hbw1 : But rb w w1 := (But.of_below (HAL.out _)).trans hb1
  have HB1 := Lib.hid hbw1
  have HZ1 := Lib.hid ((HZ.out.below (HAL.out _)).but (HR0.out.below (HAL.out _)) hb1)
  obtain ⟨⟨r0, r1, r2, r3, r4⟩, hfr⟩ := cells_of_block5 hR1
  have hz1 : w.heap.size < w1.heap.size := World.block_lt_of_cell? _ _ r0
  have hne : rb ≠ w.heap.size := Nat.ne_of_lt hrlt
  have HNE := Lib.hid hne
  have hrl : r.length + l + 1 = zs.length := by have := congrArg List.length HD0.out; simp at this; omega
  have HDR := Lib.hid (show zs.drop (l + 1) = r by rw [← List.drop_drop, HD0.out]; rfl)
  have HAL1 := Lib.hid (fun o => ((Below.refl w1.heap.size w1).alloc (Nat.le_refl _) o : Below w1.heap.size w1 (w1.alloc o)))
  clear hR1 hr1 hb1 hbw1 hne
  by_cases hy : r.length < 8
  · have HF := Lib.hid (show res = none by rw [HRD.out]; simp [hy])
    clear r0 r1 r2 r3 r4 hfr
    go_wp2_with fail
    refine (number_no rb a c zs (l + 1) d 8 _ (by omega) hl (by omega) HC.out (HK1.out.alloc _) (HZ1.out.below (HAL1.out _)) (by omega)).mono ?_
    rintro e w2 ⟨rfl, hb2⟩
    exact ⟨rfl, RetV2.no HF.out ((HB1.out.alloc _).trans hb2)⟩
  · have HF := Lib.hid (show res = some (V.int (i64N (beN (r.take 8))), 9) by rw [HRD.out]; simp [hy])
    clear r0 r1 r2 r3 r4 hfr
    go_wp2_with fail
    refine (number_ok rb a c zs (l + 1) d 8 _ (by omega) hl (by omega) HC.out (HK1.out.alloc _) (HZ1.out.below (HAL1.out _)) (by omega)).mono ?_
    rintro e w2 ⟨rfl, hr2, hb2⟩
    rw [HDR.out]
    have HK2 := Lib.hid hr2
    have hR2 : w2.heap[w.heap.size]? = some (.cells #[.int .i64 0, .int .i64 0, .float .f64 0, .string ⟨#[]⟩, .slice none 0 0] 43) := hb2.obj (Ne.symm HNE.out) (block_alloc_old _ HR1.out)
    have hV2 : w2.heap[w1.heap.size]? = some (.cells #[.int .i64 1, .int .i64 0, .float .f64 0, .string ⟨#[]⟩, .slice none 0 0] 43) := hb2.obj (show w1.heap.size ≠ rb by omega) (block_alloc_at _ rfl)
    obtain ⟨⟨r0, r1, r2, r3, r4⟩, hfr⟩ := cells_of_block5 hR2
    obtain ⟨⟨v0, v1, v2, v3, v4⟩, hfv⟩ := cells_of_block5 hV2
    have HB2 := Lib.hid ((HB1.out.alloc (.cells #[.int .i64 1, .int .i64 0, .float .f64 0, .string ⟨#[]⟩, .slice none 0 0] 43)).trans hb2)
    have hz2 : w1.heap.size < w2.heap.size := World.block_lt_of_cell? _ _ v0
    have HNE1 := Lib.hid (show rb ≠ w1.heap.size by omega)
    have HSZ1 := Lib.hid (show w.heap.size ≤ w1.heap.size by omega)
    clear hr2 hb2 hR2 hV2
    generalize beN (r.take 8) = u at HF ⊢
    have hwf := i64N_wf u
    have hw : wrap64 (u : Int) = i64N u := rfl
    generalize i64N u = q at HF hwf hw
    have HW := Lib.hid (And.intro hw hwf)
    clear hw hwf
    go_wp2_with fail
    rw [HW.out.1]
    exact bodyPost_ret (v := .agg #[.int .i64 1, .int .i64 q, .float .f64 0, .string ⟨#[]⟩, .slice none 0 0]) (by simp [results, Try.results86, go_sem, r0, r1, r2, r3, r4]) rfl
      (RetV2.mk none 0 9 HF.out rfl (VIn.int HW.out.2) (by rw [show l + 9 = l + 1 + 8 by omega]; exact (HK2.out.set_far HNE1.out _ _).set5 HNE.out _ _ _ _ _) ((HB2.out.set_new HSZ1.out _ _).set5 (Nat.le_refl _) _ _ _ _ _))

set_option maxHeartbeats 1600000 in
theorem value_k2 (d : Nat) (rb : Nat) (a : Option Addr) (c : Nat) (zs : List Int) (l : Nat) (w : World) (r : List Int) (hl : zs.length ≤ 140737488355328 ∧ zs.length ≤ c ∧ c ≤ 9223372036854775807) (hc : a = none → c = 0) (hr : rbk w rb a zs.length c l d) (hz : BIn w a zs) (hdr : zs.drop l = (2 : Int) :: r) :
    Calls Try.prog 86 #[.pointer (some ⟨rb, 0, none⟩)] w (RetV2 w rb a zs.length c l d (rd true (d + 1) ((2 : Int) :: r))) := by
  have HRD := Lib.hid (rd_cons true d (2 : Int) r)
  have hd0 : zs.drop l = (2 : Int) :: r := hdr
  have hll : l + 1 ≤ zs.length := by have := congrArg List.length hd0; simp at this; omega
  have hbe : beN ((zs.drop l).take 1) = (2 : Int) := by rw [hd0]; simp [beN]
  have HBE := Lib.hid hbe
  generalize hre : rd true (d + 1) ((2 : Int) :: r) = res at HRD ⊢
  have HD0 := Lib.hid hd0
  have HZ := Lib.hid hz
  have HR0 := Lib.hid hr
  have HC := Lib.hid hc
  have hrlt := hr.cells.2.2
  clear hre hd0 hbe hz hr hc hdr
  have HAL := Lib.hid (fun o => ((Below.refl w.heap.size w).alloc (Nat.le_refl _) o : Below w.heap.size w (w.alloc o)))
  go_enter Try.func86, Try.ntmps86
  go_wp2_with fail
  refine (number_ok rb a c zs l d 1 _ (by omega) hl (by omega) HC.out (HR0.out.below (HAL.out _)) (HZ.out.below (HAL.out _)) hll).mono ?_
  rintro e w1 ⟨rfl, hr1, hb1⟩
  rw [HBE.out]
  have hR1 : w1.heap[w.heap.size]? = some (.cells #[.int .i64 0, .int .i64 0, .float .f64 0, .string ⟨#[]⟩, .slice none 0 0] 43) := hb1.obj (Nat.ne_of_gt hrlt) (block_alloc_at _ rfl)
  have HR1 := Lib.hid hR1
  have HK1 := Lib.hid hr1
  have hbw1 : But rb w w1 := (But.of_below (HAL.out _)).trans hb1
  have HB1 := Lib.hid hbw1
  have HZ1 := Lib.hid ((HZ.out.below (HAL.out _)).but (HR0.out.below (HAL.out _)) hb1)
  obtain ⟨⟨r0, r1, r2, r3, r4⟩, hfr⟩ := cells_of_block5 hR1
  have hz1 : w.heap.size < w1.heap.size := World.block_lt_of_cell? _ _ r0
  have hne : rb ≠ w.heap.size := Nat.ne_of_lt hrlt
  have HNE := Lib.hid hne
  have hrl : r.length + l + 1 = zs.length := by have := congrArg List.length HD0.out; simp at this; omega
  have HDR := Lib.hid (show zs.drop (l + 1) = r by rw [← List.drop_drop, HD0.out]; rfl)
  have HAL1 := Lib.hid (fun o => ((Below.refl w1.heap.size w1).alloc (Nat.le_refl _) o : Below w1.heap.size w1 (w1.alloc o)))
  clear hR1 hr1 hb1 hbw1 hne
  have hfb := frombits_run
  by_cases hy : r.length < 8
  · have HF := Lib.hid (show res = none by rw [HRD.out]; simp [hy])
    clear r0 r1 r2 r3 r4 hfr
    go_wp2_with fail
    refine (number_no rb a c zs (l + 1) d 8 _ (by omega) hl (by omega) HC.out (HK1.out.alloc _) (HZ1.out.below (HAL1.out _)) (by omega)).mono ?_
    rintro e w2 ⟨rfl, hb2⟩
    exact ⟨rfl, RetV2.no HF.out ((HB1.out.alloc _).trans hb2)⟩
  · have HF0 := Lib.hid (show res = if canonN (beN (r.take 8)) = beN (r.take 8) then some (V.flt (beN (r.take 8)), 9) else none by rw [HRD.out]; simp [hy])
    have hub : beN (r.take 8) < 2 ^ 64 := by
      have hby : Byt r := by
        rw [← HDR.out]
        exact fun x hx => HZ.out.byt x (List.mem_of_mem_drop hx)
      have := beN_lt (r.take 8) (fun c hc => (hby c (List.mem_of_mem_take hc))) 0
      rw [show (r.take 8).length = 8 by simp; omega] at this
      exact this
    have HUB := Lib.hid hub
    clear r0 r1 r2 r3 r4 hfr hub
    go_wp2_with fail
    refine (number_ok rb a c zs (l + 1) d 8 _ (by omega) hl (by omega) HC.out (HK1.out.alloc _) (HZ1.out.below (HAL1.out _)) (by omega)).mono ?_
    rintro e w2 ⟨rfl, hr2, hb2⟩
    rw [HDR.out]
    have HK2 := Lib.hid hr2
    have hR2 : w2.heap[w.heap.size]? = some (.cells #[.int .i64 0, .int .i64 0, .float .f64 0, .string ⟨#[]⟩, .slice none 0 0] 43) := hb2.obj (Ne.symm HNE.out) (block_alloc_old _ HR1.out)
    have hV2 : w2.heap[w1.heap.size]? = some (.cells #[.int .i64 2, .int .i64 0, .float .f64 0, .string ⟨#[]⟩, .slice none 0 0] 43) := hb2.obj (show w1.heap.size ≠ rb by omega) (block_alloc_at _ rfl)
    obtain ⟨⟨r0, r1, r2, r3, r4⟩, hfr⟩ := cells_of_block5 hR2
    obtain ⟨⟨v0, v1, v2, v3, v4⟩, hfv⟩ := cells_of_block5 hV2
    have HB2 := Lib.hid ((HB1.out.alloc (.cells #[.int .i64 2, .int .i64 0, .float .f64 0, .string ⟨#[]⟩, .slice none 0 0] 43)).trans hb2)
    have hz2 : w1.heap.size < w2.heap.size := World.block_lt_of_cell? _ _ v0
    have HNE1 := Lib.hid (show rb ≠ w1.heap.size by omega)
    have HSZ1 := Lib.hid (show w.heap.size ≤ w1.heap.size by omega)
    clear hr2 hb2 hR2 hV2
    generalize beN (r.take 8) = u at HF0 HUB ⊢
    by_cases hcn : canonN u = u
    · have HF := Lib.hid (show res = some (V.mk 2 0 u ⟨#[]⟩ [], 9) by rw [HF0.out, if_pos hcn]; rfl)
      have hcb : ((canonN u : Int) == (u : Int)) = true := by simp [hcn]
      clear hcn
      go_wp2_with fail
      refine (bits2_c _ _).mono ?_
      rintro e w' ⟨rfl, rfl⟩
      go_wp2_with fail
      refine (must_ok _).mono ?_
      rintro e w' ⟨rfl, rfl⟩
      go_wp2_with fail
      exact bodyPost_ret (v := .agg #[.int .i64 2, .int .i64 0, .float .f64 u, .string ⟨#[]⟩, .slice none 0 0]) (by simp [results, Try.results86, go_sem, r0, r1, r2, r3, r4]) rfl
        (RetV2.mk none 0 9 HF.out rfl (VIn.flt HUB.out) (by rw [show l + 9 = l + 1 + 8 by omega]; exact (HK2.out.set_far HNE1.out _ _).set5 HNE.out _ _ _ _ _) ((HB2.out.set_new HSZ1.out _ _).set5 (Nat.le_refl _) _ _ _ _ _))
    · have HF := Lib.hid (show res = none by rw [HF0.out, if_neg hcn])
      have hcb : ((canonN u : Int) == (u : Int)) = false := by simp; omega
      clear hcn
      go_wp2_with fail
      refine (bits2_c _ _).mono ?_
      rintro e w' ⟨rfl, rfl⟩
      go_wp2_with fail
      refine (must_no _).mono ?_
      rintro e w' ⟨rfl, rfl⟩
      exact ⟨rfl, RetV2.no HF.out (HB2.out.set_new HSZ1.out _ _)⟩

set_option maxHeartbeats 1600000 in
theorem value_k3 (d : Nat) (rb : Nat) (a : Option Addr) (c : Nat) (zs : List Int) (l : Nat) (w : World) (r : List Int) (hl : zs.length ≤ 140737488355328 ∧ zs.length ≤ c ∧ c ≤ 9223372036854775807) (hc : a = none → c = 0) (hr : rbk w rb a zs.length c l d) (hz : BIn w a zs) (hdr : zs.drop l = (3 : Int) :: r) :
    Calls Try.prog 86 #[.pointer (some ⟨rb, 0, none⟩)] w (RetV2 w rb a zs.length c l d (rd true (d + 1) ((3 : Int) :: r))) := by
  have HRD := Lib.hid (rd_cons true d (3 : Int) r)
  have hd0 : zs.drop l = (3 : Int) :: r := hdr
  have hll : l + 1 ≤ zs.length := by have := congrArg List.length hd0; simp at this; omega
  have hbe : beN ((zs.drop l).take 1) = (3 : Int) := by rw [hd0]; simp [beN]
  have HBE := Lib.hid hbe
  generalize hre : rd true (d + 1) ((3 : Int) :: r) = res at HRD ⊢
  have HD0 := Lib.hid hd0
  have HZ := Lib.hid hz
  have HR0 := Lib.hid hr
  have HC := Lib.hid hc
  have hrlt := hr.cells.2.2
  clear hre hd0 hbe hz hr hc hdr
  have HAL := Lib.hid (fun o => ((Below.refl w.heap.size w).alloc (Nat.le_refl _) o : Below w.heap.size w (w.alloc o)))
  go_enter Try.func86, Try.ntmps86
  go_wp2_with fail
  refine (number_ok rb a c zs l d 1 _ (by omega) hl (by omega) HC.out (HR0.out.below (HAL.out _)) (HZ.out.below (HAL.out _)) hll).mono ?_
  rintro e w1 ⟨rfl, hr1, hb1⟩
  rw [HBE.out]
  have hR1 : w1.heap[w.heap.size]? = some (.cells #[.int .i64 0, .int .i64 0, .float .f64 0, .string ⟨#[]⟩, .slice none 0 0] 43) := hb1.obj (Nat.ne_of_gt hrlt) (block_alloc_at _ rfl)
  have HR1 := Lib.hid hR1
  have HK1 := Lib.hid hr1
  have hbw1 : But rb w w1 := (But.of_below (HAL.out _)).trans hb1
  have HB1 := Lib.hid hbw1
  have HZ1 := Lib.hid ((HZ.out.below (HAL.out _)).but (HR0.out.below (HAL.out _)) hb1)
  obtain ⟨⟨r0, r1, r2, r3, r4⟩, hfr⟩ := cells_of_block5 hR1
  have hz1 : w.heap.size < w1.heap.size := World.block_lt_of_cell? _ _ r0
  have hne : rb ≠ w.heap.size := Nat.ne_of_lt hrlt
  have HNE := Lib.hid hne
  have hrl : r.length + l + 1 = zs.length := by have := congrArg List.length HD0.out; simp at this; omega
  have HDR := Lib.hid (show zs.drop (l + 1) = r by rw [← List.drop_drop, HD0.out]; rfl)
  have HAL1 := Lib.hid (fun o => ((Below.refl w1.heap.size w1).alloc (Nat.le_refl _) o : Below w1.heap.size w1 (w1.alloc o)))
  clear hR1 hr1 hb1 hbw1 hne
  generalize hlx : l + 1 = l1 at HK1 HDR hll
  have hrl1 : r.length + l1 = zs.length := by omega
  have HLX := Lib.hid hlx
  clear hlx hrl
  obtain ⟨⟨k0, k1, k2⟩, hkf, _⟩ := HK1.out.cells
  obtain ⟨a1, c3, ys, hys, hl1, hc1, hbin, hsl⟩ := sub_at a c zs l1 (by omega) hl.2 HC.out
  have hyr : ys = r := by rw [hys, HDR.out]
  subst hyr
  have HBI := Lib.hid hbin
  have hl0 : (0 : Int) ≤ (l1 : Int) := by omega
  have hl9 : (l1 : Int) ≤ 140737488355328 := by omega
  clear hbin hys
  generalize hlen : zs.length = N at *
  have HN := Lib.hid hlen
  have hf1 := hkf 1
  clear hlen hkf
  by_cases ht : (rtext ys 256).2.2 = 0
  · have HF0 := Lib.hid (show res = some (V.txt (rtext ys 256).1, 1 + (rtext ys 256).2.1.toNat) by rw [HRD.out]; simp [ht])
    obtain ⟨q1, q2, q3, q4⟩ := rtext_ok ht
    have HT := Lib.hid q4
    have HSZ := Lib.hid (show (txtB ((ys.drop 2).take (beN (ys.take 2)))).size ≤ 140737488351232 by rw [txtB_size]; simp; omega)
    rw [HT.out] at HF0
    clear q1 q4 ht
    generalize txtB ((ys.drop 2).take (beN (ys.take 2))) = tx at HF0 HT HSZ
    generalize beN (ys.take 2) = u at HF0 HT q2 q3
    have HF := Lib.hid (show res = some (V.mk 3 0 0 tx [], 3 + u) by rw [HF0.out]; simp only [V.txt]; congr 2; omega)
    clear r0 r1 r2 r3 r4 hfr
    have HKA := Lib.hid (HK1.out.alloc (.cells #[.int .i64 3, .int .i64 0, .float .f64 0, .string ⟨#[]⟩, .slice none 0 0] 43))
    go_wp2_with fail
    go_quiet ((go_at_call 64; exact Calls.quiet_of_same ((rtext2_c a1 c3 ys 256 _ hl1 (HBI.out _ (HZ1.out.below (below_drewN (HAL1.out _) _)))).mono (fun e w' h => ⟨h.1, h.2.symm⟩))))
    rw [HT.out]
    go_wp2_with fail
    refine (must_ok _).mono ?_
    rintro e w' ⟨rfl, rfl⟩
    have HAD := Lib.hid (below_drewN (Below.refl (w1.alloc (.cells #[.int .i64 3, .int .i64 0, .float .f64 0, .string ⟨#[]⟩, .slice none 0 0] 43)).heap.size (w1.alloc (.cells #[.int .i64 3, .int .i64 0, .float .f64 0, .string ⟨#[]⟩, .slice none 0 0] 43))) nq)
    have HKD := Lib.hid (HKA.out.below HAD.out)
    have HRD2 := Lib.hid (block_below HAD.out (block_alloc_old (.cells #[.int .i64 3, .int .i64 0, .float .f64 0, .string ⟨#[]⟩, .slice none 0 0] 43) HR1.out))
    have HVD := Lib.hid (block_below HAD.out (block_alloc_at (.cells #[.int .i64 3, .int .i64 0, .float .f64 0, .string ⟨#[]⟩, .slice none 0 0] 43) (rfl : w1.heap.size = w1.heap.size)))
    have HBD := Lib.hid ((HB1.out.alloc _).trans (But.of_below HAD.out))
    clear k0 k1 k2 hf1 hsl
    generalize ((w1.alloc (.cells #[.int .i64 3, .int .i64 0, .float .f64 0, .string ⟨#[]⟩, .slice none 0 0] 43)).drewN nq) = w2 at *
    obtain ⟨⟨r0, r1, r2, r3, r4⟩, hfr⟩ := cells_of_block5 HRD2.out
    obtain ⟨⟨v0, v1, v2, v3, v4⟩, hfv⟩ := cells_of_block5 HVD.out
    obtain ⟨⟨k0, k1, k2⟩, hkf, hkl⟩ := HKD.out.cells
    have hf1 := hkf 1
    have hz2 : w1.heap.size < w2.heap.size := World.block_lt_of_cell? _ _ v0
    have HNE1 := Lib.hid (show rb ≠ w1.heap.size by omega)
    have hne1 : ¬ rb = w1.heap.size := HNE1.out
    have hne2 : ¬ w1.heap.size = rb := Ne.symm HNE1.out
    have HSZ1 := Lib.hid (show w.heap.size ≤ w1.heap.size by omega)
    clear hkf
    go_wp2_with fail
    exact bodyPost_ret (v := .agg #[.int .i64 3, .int .i64 0, .float .f64 0, .string tx, .slice none 0 0]) (by simp [results, Try.results86, go_sem, r0, r1, r2, r3, r4]) rfl
      (RetV2.mk none 0 (3 + u) HF.out rfl (VIn.txt HSZ.out) (by rw [show ((l + (3 + u) : Nat) : Int) = (l1 : Int) + (2 + (u : Int)) by have := HLX.out; omega]; exact (((HKD.out.set_far HNE1.out _ _).set1 _).set5 HNE.out _ _ _ _ _)) (((HBD.out.set_new HSZ1.out _ _).set _ _).set5 (Nat.le_refl _) _ _ _ _ _))
  · have HF := Lib.hid (show res = none by rw [HRD.out]; simp [ht])
    have hq : (rtext ys 256).1 = ⟨#[]⟩ ∧ (rtext ys 256).2.1 = 0 ∧ (rtext ys 256).2.2 = 20 := by
      unfold rtext at ht ⊢
      split
      · exact ⟨rfl, rfl, rfl⟩
      · split
        · exact ⟨rfl, rfl, rfl⟩
        · rename_i h1 h2; rw [if_neg h1, if_neg h2] at ht; exact absurd rfl ht
    have HQ := Lib.hid hq
    clear ht hq r0 r1 r2 r3 r4 hfr
    go_wp2_with fail
    go_quiet ((go_at_call 64; exact Calls.quiet_of_same ((rtext2_c a1 c3 ys 256 _ hl1 (HBI.out _ (HZ1.out.below (below_drewN (HAL1.out _) _)))).mono (fun e w' h => ⟨h.1, h.2.symm⟩))))
    rw [HQ.out.1, HQ.out.2.1, HQ.out.2.2]
    go_wp2_with fail
    refine (must_no _).mono ?_
    rintro e w' ⟨rfl, rfl⟩
    exact ⟨rfl, RetV2.no HF.out ((HB1.out.alloc _).trans (But.of_below (below_drewN (Below.refl _ _) nq)))⟩

set_option maxHeartbeats 1600000 in
theorem value_else (d : Nat) (rb : Nat) (a : Option Addr) (c : Nat) (zs : List Int) (l : Nat) (w : World) (z : Int) (k0 : z ≠ 0) (k1 : z ≠ 1) (k2 : z ≠ 2) (k3 : z ≠ 3) (k4 : z ≠ 4) (hz0 : 0 ≤ z ∧ z ≤ 255) (r : List Int) (hl : zs.length ≤ 140737488355328 ∧ zs.length ≤ c ∧ c ≤ 9223372036854775807) (hc : a = none → c = 0) (hr : rbk w rb a zs.length c l d) (hz : BIn w a zs) (hdr : zs.drop l = z :: r) :
    Calls Try.prog 86 #[.pointer (some ⟨rb, 0, none⟩)] w (RetV2 w rb a zs.length c l d (rd true (d + 1) (z :: r))) := by
  have HRD := Lib.hid (rd_cons true d z r)
  have hd0 : zs.drop l = z :: r := hdr
  have hll : l + 1 ≤ zs.length := by have := congrArg List.length hd0; simp at this; omega
  have hbe : (beN ((zs.drop l).take 1) : Int) = z := by rw [hd0]; simp [beN]; omega
  have HBE := Lib.hid hbe
  generalize hre : rd true (d + 1) (z :: r) = res at HRD ⊢
  have HD0 := Lib.hid hd0
  have HZ := Lib.hid hz
  have HR0 := Lib.hid hr
  have HC := Lib.hid hc
  have hrlt := hr.cells.2.2
  clear hre hd0 hbe hz hr hc hdr
  have HAL := Lib.hid (fun o => ((Below.refl w.heap.size w).alloc (Nat.le_refl _) o : Below w.heap.size w (w.alloc o)))
  go_enter Try.func86, Try.ntmps86
  go_wp2_with fail
  refine (number_ok rb a c zs l d 1 _ (by omega) hl (by omega) HC.out (HR0.out.below (HAL.out _)) (HZ.out.below (HAL.out _)) hll).mono ?_
  rintro e w1 ⟨rfl, hr1, hb1⟩
  rw [HBE.out]
  have hR1 : w1.heap[w.heap.size]? = some (.cells #[.int .i64 0, .int .i64 0, .float .f64 0, .string ⟨#[]⟩, .slice none 0 0] 43) := hb1.obj (Nat.ne_of_gt hrlt) (block_alloc_at _ rfl)
  have HR1 := Lib.hid hR1
  have HK1 := Lib.hid hr1
  have hbw1 : But rb w w1 := (But.of_below (HAL.out _)).trans hb1
  have HB1 := Lib.hid hbw1
  have HZ1 := Lib.hid ((HZ.out.below (HAL.out _)).but (HR0.out.below (HAL.out _)) hb1)
  obtain ⟨⟨r0, r1, r2, r3, r4⟩, hfr⟩ := cells_of_block5 hR1
  have hz1 : w.heap.size < w1.heap.size := World.block_lt_of_cell? _ _ r0
  have hne : rb ≠ w.heap.size := Nat.ne_of_lt hrlt
  have HNE := Lib.hid hne
  have hrl : r.length + l + 1 = zs.length := by have := congrArg List.length HD0.out; simp at this; omega
  have HDR := Lib.hid (show zs.drop (l + 1) = r by rw [← List.drop_drop, HD0.out]; rfl)
  have HAL1 := Lib.hid (fun o => ((Below.refl w1.heap.size w1).alloc (Nat.le_refl _) o : Below w1.heap.size w1 (w1.alloc o)))
  clear hR1 hr1 hb1 hbw1 hne
  have HF := Lib.hid (show res = none by rw [HRD.out]; simp [k0, k1, k2, k3, k4])
  clear r0 r1 r2 r3 r4 hfr
  go_wp2_with fail
  refine (must_no _).mono ?_
  rintro e w' ⟨rfl, rfl⟩
  exact ⟨rfl, RetV2.no HF.out (HB1.out.alloc _)⟩
end Go.Proofs.Ytkhgbbloeeaceaa
