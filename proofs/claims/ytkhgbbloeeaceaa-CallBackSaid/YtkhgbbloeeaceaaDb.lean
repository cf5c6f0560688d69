/- Values read, by the reference. -/
import Derived.Test.YtkhgbbloeeaceaaDa
import Derived.Outline
namespace Go.Proofs.Ytkhgbbloeeaceaa
open Go Go.RowKit
set_option maxRecDepth 16000
attribute [local go_sem ↓] run_store_float

/-- A value, how many bytes, and whether it is one, come back. -/
def RetRd (w : World) (r : Option (V × Nat)) (e : Ending) (w' : World) : Prop := ∃ (t : V) (sa : Option Addr) (sc : Nat) (n : Int),
  e = .returned (.tuple #[.agg #[.int .i64 t.k, .int .i64 t.i, .float .f64 t.f, .string t.s, .slice sa t.l.length sc], .int .i64 n, .bool r.isSome]) ∧
  (∀ v m, r = some (v, m) → t = v ∧ n = m ∧ VIn (fun b => w.heap.size ≤ b) w' v (.slice sa v.l.length sc)) ∧ Below w.heap.size w w'
theorem RetRd.no {w w' : World} {r : Option (V × Nat)} {n : Int} (t : V) (ht : t.l = []) (hr : r = none) (hb : Below w.heap.size w w') :
    RetRd w r (.returned (.tuple #[.agg #[.int .i64 t.k, .int .i64 t.i, .float .f64 t.f, .string t.s, .slice none 0 0], .int .i64 n, .bool false])) w' :=
  ⟨t, none, 0, n, by rw [hr, ht]; rfl, (fun v m h => by rw [hr] at h; cases h), hb⟩
theorem RetRd.yes {w w' : World} {r : Option (V × Nat)} {n : Nat} (t : V) (sa : Option Addr) (sc : Nat) (hr : r = some (t, n)) (hv : VIn (fun b => w.heap.size ≤ b) w' t (.slice sa t.l.length sc)) (hb : Below w.heap.size w w') :
    RetRd w r (.returned (.tuple #[.agg #[.int .i64 t.k, .int .i64 t.i, .float .f64 t.f, .string t.s, .slice sa t.l.length sc], .int .i64 n, .bool true])) w' :=
  ⟨t, sa, sc, n, by rw [hr]; rfl, (fun v m h => by rw [hr] at h; simp only [Option.some.injEq, Prod.mk.injEq] at h; obtain ⟨rfl, rfl⟩ := h; exact ⟨rfl, rfl, hv⟩), hb⟩

theorem RetRd.flat {w w' : World} {r : Option (V × Nat)} (k i : Int) (f : Nat) (s : ByteArray) (n : Nat) (m : Int) (hm : m = n) (hr : r = some (V.mk k i f s [], n)) (hv : VIn (fun b => w.heap.size ≤ b) w' (V.mk k i f s []) (.slice none 0 0)) (hb : Below w.heap.size w w') :
    RetRd w r (.returned (.tuple #[.agg #[.int .i64 k, .int .i64 i, .float .f64 f, .string s, .slice none 0 0], .int .i64 m, .bool true])) w' := by
  subst hm
  exact RetRd.yes (V.mk k i f s []) none 0 hr hv hb
/-- b[at:] -/
theorem sub_at (a : Option Addr) (c : Nat) (zs : List Int) (l : Nat) (hl : l ≤ zs.length) (hc : zs.length ≤ c ∧ c ≤ 9223372036854775807) (hn : a = none → c = 0) :
    ∃ (a' : Option Addr) (c' : Nat) (ys : List Int), ys = zs.drop l ∧ (ys.length ≤ c' ∧ c' ≤ 9223372036854775807) ∧ (a' = none → c' = 0) ∧ (∀ w : World, BIn w a zs → BIn w a' ys) ∧
      ∀ w, (Instr.slice 22 (.slice a zs.length c) (some (.int .i64 (l : Int))) none none).run Try.prog w = .ok (.slice a' ys.length c') w := by
  have hs : ∀ w, (sizeOf 5).run Try.prog w = .ok 1 w := fun w => by
    obtain ⟨i, hi, _, hz1, _⟩ := info_parts infoB
    simp [sizeOf, typeInfo, hi, hz1]
  have hel : Try.prog.elem 22 = 5 := by simp [Program.elem, Try.underlying22]
  refine ⟨if c = l then a else a.map (·.add l), c - l, zs.drop l, rfl, ⟨by rw [List.length_drop]; omega, by omega⟩, fun h => ?_, fun w hz j hj => ?_, fun w => ?_⟩
  · by_cases e : c = l
    · omega
    · rw [if_neg e] at h
      have : a = none := by cases a with | none => rfl | some p => cases h
      rw [hn this]; omega
  · rw [List.length_drop] at hj
    obtain ⟨b, o, rfl, hc1, h0, h1⟩ := hz (l + j) (by omega)
    refine ⟨b, o + l, by rw [if_neg (by omega)]; simp [addr_add], ?_, ?_, ?_⟩
    · rw [List.getElem_drop, Nat.add_assoc]; exact hc1
    · rw [List.getElem_drop]; exact h0
    · rw [List.getElem_drop]; exact h1
  · rw [run_slice_l w 22 a zs.length c (by rw [hel]; exact Try.underlying22) .i64 l (by omega) (by omega), hel, hs]
    simp [Result.andThen, sliced, List.length_drop]

theorem canonN_twice (n : Nat) : canonN (canonN n) = canonN n := by
  unfold canonN
  by_cases h : nan n = true
  · rw [if_pos h, if_pos (by decide +kernel)]
  · rw [if_neg h, if_neg h]

theorem i64N_wf (u : Nat) : (Lit.int .i64 (i64N u)).wf = true := by
  have : -9223372036854775808 ≤ i64N u ∧ i64N u ≤ 9223372036854775807 := by unfold i64N wrap64; omega
  exact WalkArith.wf_i64 this
def ReadC1 (d : Nat) : Prop := ∀ (n : Int) (a : Option Addr) (c : Nat) (zs : List Int) (w : World), n = 9 - d → zs.length ≤ c ∧ c ≤ 9223372036854775807 → (a = none → c = 0) → BIn w a zs →
  Calls Try.prog 67 #[.slice a zs.length c, .int .i64 n] w (RetRd w (rd false d zs))

theorem read1_none (d : Nat) (n : Int) (a : Option Addr) (c : Nat) (zs : List Int) (w : World) (hn : n = 9 - d) (hl : zs.length ≤ c ∧ c ≤ 9223372036854775807) (h : zs = [] ∨ d = 0) :
    Calls Try.prog 67 #[.slice a zs.length c, .int .i64 n] w (RetRd w (rd false d zs)) := by
  have HR := Lib.hid (show rd false d zs = none by rcases h with rfl | rfl; exact rd_nil _ _; exact rd_zero _ _)
  generalize rd false d zs = r at HR ⊢
  have hb : Below w.heap.size w (w.alloc (.cells #[.int .i64 0, .int .i64 0, .float .f64 0, .string ⟨#[]⟩, .slice none 0 0] 43)) := (Below.refl _ _).alloc (Nat.le_refl _) _
  by_cases h0 : zs = []
  · subst h0
    simp only [List.length_nil] at hl ⊢
    have HB := Lib.hid hb
    clear hb
    go_enter Try.func67, Try.ntmps67
    go_wp2_with fail
    exact bodyPost_ret (v := .tuple #[.agg #[.int .i64 0, .int .i64 0, .float .f64 0, .string ⟨#[]⟩, .slice none 0 0], .int .i64 0, .bool false]) (by simp [results, Try.results67, go_sem]) rfl (RetRd.no V.nil rfl HR.out HB.out)
  · have hd : d = 0 := h.resolve_left h0
    have hn9 : n = 9 := by omega
    subst hn9
    have hpos : 0 < zs.length := List.length_pos_iff.2 h0
    have hne : ((zs.length : Int) == 0) = false := by simp; omega
    have HB := Lib.hid hb
    clear hb h0 h hn hd
    go_enter Try.func67, Try.ntmps67
    go_wp2_with fail
    exact bodyPost_ret (v := .tuple #[.agg #[.int .i64 0, .int .i64 0, .float .f64 0, .string ⟨#[]⟩, .slice none 0 0], .int .i64 0, .bool false]) (by simp [results, Try.results67, go_sem]) rfl (RetRd.no V.nil rfl HR.out HB.out)

set_option maxHeartbeats 1600000 in
theorem read1_k0 (d : Nat) (n : Int) (a : Option Addr) (c : Nat) (r : List Int) (w : World) (hn : n = 9 - (d + 1 : Nat)) (hl : ((0 : Int) :: r).length ≤ c ∧ c ≤ 9223372036854775807) (hc : a = none → c = 0) (hz : BIn w a ((0 : Int) :: r)) :
    Calls Try.prog 67 #[.slice a ((0 : Int) :: r).length c, .int .i64 n] w (RetRd w (rd false (d + 1) ((0 : Int) :: r))) := by
  obtain ⟨b, o, rfl, hcell, _, _⟩ := hz 0 (by simp)
  simp only [List.getElem_cons_zero, Nat.add_zero] at hcell
  obtain ⟨a1, c1, ys, hys, hl1, hc1, hbin, hsl⟩ := sub_at (some ⟨b, o, none⟩) c ((0 : Int) :: r) 1 (by simp) hl hc
  simp only [List.drop_succ_cons, List.drop_zero] at hys
  have hblt : b < w.heap.size := World.block_lt_of_cell? w _ hcell
  have HR := Lib.hid (rd_cons false d 0 r)
  generalize hre : rd false (d + 1) ((0 : Int) :: r) = res at HR ⊢
  generalize hlen : ((0 : Int) :: r).length = N at hl hsl ⊢
  have hN : 1 ≤ N := by rw [← hlen]; simp
  have hN0 : ((N : Int) == 0) = false := by simp; omega
  have hn8 : n ≤ 8 := by omega
  have hslz := hsl w
  have HB := Lib.hid (hbin w hz)
  have HSL := Lib.hid hsl
  have hyl : ys.length + 1 = N := by rw [hys, ← hlen]; simp
  subst hys
  clear hre hlen hbin hsl hz hc hn
  have HBB := Lib.hid ((Below.refl w.heap.size w).alloc (Nat.le_refl _) (.cells #[.int .i64 0, .int .i64 0, .float .f64 0, .string ⟨#[]⟩, .slice none 0 0] 43))
  have HSA : Hid ((Instr.slice 22 (.slice (some ⟨b, o, none⟩) N c) (some (.int .i64 1)) none none).run Try.prog (w.alloc (.cells #[.int .i64 0, .int .i64 0, .float .f64 0, .string ⟨#[]⟩, .slice none 0 0] 43)) = .ok (.slice a1 ys.length c1) (w.alloc (.cells #[.int .i64 0, .int .i64 0, .float .f64 0, .string ⟨#[]⟩, .slice none 0 0] 43))) := Lib.hid (HSL.out _)
  clear hslz
  have HF := Lib.hid (show res = some (V.nil, 1) by rw [HR.out]; rfl)
  go_enter Try.func67, Try.ntmps67
  go_wp2_with fail
  exact bodyPost_ret (v := .tuple #[.agg #[.int .i64 0, .int .i64 0, .float .f64 0, .string ⟨#[]⟩, .slice none 0 0], .int .i64 1, .bool true]) (by simp [results, Try.results67, go_sem]) rfl (RetRd.flat 0 0 0 ⟨#[]⟩ 1 1 rfl HF.out VIn.nil HBB.out)

set_option maxHeartbeats 1600000 in
theorem read1_k1 (d : Nat) (n : Int) (a : Option Addr) (c : Nat) (r : List Int) (w : World) (hn : n = 9 - (d + 1 : Nat)) (hl : ((1 : Int) :: r).length ≤ c ∧ c ≤ 9223372036854775807) (hc : a = none → c = 0) (hz : BIn w a ((1 : Int) :: r)) :
    Calls Try.prog 67 #[.slice a ((1 : Int) :: r).length c, .int .i64 n] w (RetRd w (rd false (d + 1) ((1 : Int) :: r))) := by
  obtain ⟨b, o, rfl, hcell, _, _⟩ := hz 0 (by simp)
  simp only [List.getElem_cons_zero, Nat.add_zero] at hcell
  obtain ⟨a1, c1, ys, hys, hl1, hc1, hbin, hsl⟩ := sub_at (some ⟨b, o, none⟩) c ((1 : Int) :: r) 1 (by simp) hl hc
  simp only [List.drop_succ_cons, List.drop_zero] at hys
  have hblt : b < w.heap.size := World.block_lt_of_cell? w _ hcell
  have HR := Lib.hid (rd_cons false d 1 r)
  generalize hre : rd false (d + 1) ((1 : Int) :: r) = res at HR ⊢
  generalize hlen : ((1 : Int) :: r).length = N at hl hsl ⊢
  have hN : 1 ≤ N := by rw [← hlen]; simp
  have hN0 : ((N : Int) == 0) = false := by simp; omega
  have hn8 : n ≤ 8 := by omega
  have hslz := hsl w
  have HB := Lib.hid (hbin w hz)
  have HSL := Lib.hid hsl
  have hyl : ys.length + 1 = N := by rw [hys, ← hlen]; simp
  subst hys
  clear hre hlen hbin hsl hz hc hn
  have HBB := Lib.hid ((Below.refl w.heap.size w).alloc (Nat.le_refl _) (.cells #[.int .i64 0, .int .i64 0, .float .f64 0, .string ⟨#[]⟩, .slice none 0 0] 43))
  have HSA : Hid ((Instr.slice 22 (.slice (some ⟨b, o, none⟩) N c) (some (.int .i64 1)) none none).run Try.prog (w.alloc (.cells #[.int .i64 0, .int .i64 0, .float .f64 0, .string ⟨#[]⟩, .slice none 0 0] 43)) = .ok (.slice a1 ys.length c1) (w.alloc (.cells #[.int .i64 0, .int .i64 0, .float .f64 0, .string ⟨#[]⟩, .slice none 0 0] 43))) := Lib.hid (HSL.out _)
  clear hslz
  have hs := HSA.out
  by_cases hy : ys.length < 8
  · have HF := Lib.hid (show res = none by rw [HR.out]; simp [hy])
    have HU := Lib.hid (show readU ys 8 = (0, false) by unfold readU; rw [if_pos (by omega)])
    go_enter Try.func67, Try.ntmps67
    go_wp2_with fail
    refine (readU1_c a1 c1 ys 8 _ (by omega) (HB.out.below HBB.out)).mono ?_
    rintro e w' ⟨rfl, rfl⟩
    rw [HU.out]
    go_wp2_with fail
    refine (int_c _ _).mono ?_
    rintro e w2 ⟨rfl, hb2⟩
    obtain ⟨⟨v0, v1, v2, v3, v4⟩, hfz⟩ := cells_of_block5 (block_below hb2 (block_alloc_at _ rfl))
    have HB2 := Lib.hid (HBB.out.trans (hb2.mono (by simp)))
    clear hb2
    go_wp2_with fail
    exact bodyPost_ret (v := .tuple #[.agg #[.int .i64 1, .int .i64 0, .float .f64 0, .string ⟨#[]⟩, .slice none 0 0], .int .i64 9, .bool false]) (by simp [results, Try.results67, go_sem, v0, v1, v2, v3, v4, IntKind.wrap, IntKind.signed, IntKind.bits]) rfl (RetRd.no (V.int 0) rfl HF.out (below5 HB2.out (Nat.le_refl _) _ _ _ _ _))
  · have HF := Lib.hid (show res = some (V.int (i64N (beN (ys.take 8))), 9) by rw [HR.out]; simp [hy])
    have HU := Lib.hid (show readU ys 8 = (beN (ys.take 8), true) by unfold readU; rw [if_neg (by omega)]; rfl)
    generalize beN (ys.take 8) = u at HF HU
    have hwf := i64N_wf u
    have hw : wrap64 (u : Int) = i64N u := rfl
    generalize i64N u = q at HF hwf hw
    have HW := Lib.hid (And.intro hw hwf)
    clear hw hwf
    go_enter Try.func67, Try.ntmps67
    go_wp2_with fail
    refine (readU1_c a1 c1 ys 8 _ (by omega) (HB.out.below HBB.out)).mono ?_
    rintro e w' ⟨rfl, rfl⟩
    rw [HU.out]
    go_wp2_with fail
    rw [HW.out.1]
    with_reducible refine (int_c q _).mono ?_
    rintro e w2 ⟨rfl, hb2⟩
    obtain ⟨⟨v0, v1, v2, v3, v4⟩, hfz⟩ := cells_of_block5 (block_below hb2 (block_alloc_at _ rfl))
    have HB2 := Lib.hid (HBB.out.trans (hb2.mono (by simp)))
    clear hb2
    go_wp2_with fail
    exact bodyPost_ret (v := .tuple #[.agg #[.int .i64 1, .int .i64 q, .float .f64 0, .string ⟨#[]⟩, .slice none 0 0], .int .i64 9, .bool true]) (by simp [results, Try.results67, go_sem, v0, v1, v2, v3, v4]) rfl (RetRd.flat 1 q 0 ⟨#[]⟩ 9 9 rfl HF.out (VIn.int HW.out.2) (below5 HB2.out (Nat.le_refl _) _ _ _ _ _))

set_option maxHeartbeats 1600000 in
theorem read1_k2 (d : Nat) (n : Int) (a : Option Addr) (c : Nat) (r : List Int) (w : World) (hn : n = 9 - (d + 1 : Nat)) (hl : ((2 : Int) :: r).length ≤ c ∧ c ≤ 9223372036854775807) (hc : a = none → c = 0) (hz : BIn w a ((2 : Int) :: r)) :
    Calls Try.prog 67 #[.slice a ((2 : Int) :: r).length c, .int .i64 n] w (RetRd w (rd false (d + 1) ((2 : Int) :: r))) := by
  obtain ⟨b, o, rfl, hcell, _, _⟩ := hz 0 (by simp)
  simp only [List.getElem_cons_zero, Nat.add_zero] at hcell
  obtain ⟨a1, c1, ys, hys, hl1, hc1, hbin, hsl⟩ := sub_at (some ⟨b, o, none⟩) c ((2 : Int) :: r) 1 (by simp) hl hc
  simp only [List.drop_succ_cons, List.drop_zero] at hys
  have hblt : b < w.heap.size := World.block_lt_of_cell? w _ hcell
  have HR := Lib.hid (rd_cons false d 2 r)
  generalize hre : rd false (d + 1) ((2 : Int) :: r) = res at HR ⊢
  generalize hlen : ((2 : Int) :: r).length = N at hl hsl ⊢
  have hN : 1 ≤ N := by rw [← hlen]; simp
  have hN0 : ((N : Int) == 0) = false := by simp; omega
  have hn8 : n ≤ 8 := by omega
  have hslz := hsl w
  have HB := Lib.hid (hbin w hz)
  have HSL := Lib.hid hsl
  have hyl : ys.length + 1 = N := by rw [hys, ← hlen]; simp
  subst hys
  clear hre hlen hbin hsl hz hc hn
  have HBB := Lib.hid ((Below.refl w.heap.size w).alloc (Nat.le_refl _) (.cells #[.int .i64 0, .int .i64 0, .float .f64 0, .string ⟨#[]⟩, .slice none 0 0] 43))
  have HSA : Hid ((Instr.slice 22 (.slice (some ⟨b, o, none⟩) N c) (some (.int .i64 1)) none none).run Try.prog (w.alloc (.cells #[.int .i64 0, .int .i64 0, .float .f64 0, .string ⟨#[]⟩, .slice none 0 0] 43)) = .ok (.slice a1 ys.length c1) (w.alloc (.cells #[.int .i64 0, .int .i64 0, .float .f64 0, .string ⟨#[]⟩, .slice none 0 0] 43))) := Lib.hid (HSL.out _)
  clear hslz
  have hs := HSA.out
  have hfb := frombits_run
  by_cases hy : ys.length < 8
  · have HF := Lib.hid (show res = none by rw [HR.out]; simp [hy])
    have HU := Lib.hid (show readU ys 8 = (0, false) by unfold readU; rw [if_pos (by omega)])
    go_enter Try.func67, Try.ntmps67
    go_wp2_with fail
    refine (readU1_c a1 c1 ys 8 _ (by omega) (HB.out.below HBB.out)).mono ?_
    rintro e w' ⟨rfl, rfl⟩
    rw [HU.out]
    go_wp2_with fail
    refine (float_c _ _).mono ?_
    rintro e w2 ⟨rfl, hb2⟩
    obtain ⟨⟨v0, v1, v2, v3, v4⟩, hfz⟩ := cells_of_block5 (block_below hb2 (block_alloc_at _ rfl))
    have HB2 := Lib.hid (HBB.out.trans (hb2.mono (by simp)))
    clear hb2
    go_wp2_with fail
    exact bodyPost_ret (v := .tuple #[.agg #[.int .i64 2, .int .i64 0, .float .f64 (canonN 0), .string ⟨#[]⟩, .slice none 0 0], .int .i64 9, .bool false]) (by simp [results, Try.results67, go_sem, v0, v1, v2, v3, v4]) rfl (RetRd.no (V.flt (canonN 0)) rfl HF.out (below5 HB2.out (Nat.le_refl _) _ _ _ _ _))
  · have HU := Lib.hid (show readU ys 8 = (beN (ys.take 8), true) by unfold readU; rw [if_neg (by omega)]; rfl)
    have hub : beN (ys.take 8) < 2 ^ 64 := by
      have := beN_lt (ys.take 8) (fun c hc => (HB.out.byt c (List.mem_of_mem_take hc))) 0
      rw [show (ys.take 8).length = 8 by simp; omega] at this
      exact this
    have HUB := Lib.hid hub
    clear hub
    have HR2 := Lib.hid (show res = if canonN (beN (ys.take 8)) = beN (ys.take 8) then some (V.flt (beN (ys.take 8)), 9) else none by rw [HR.out]; simp [hy])
    generalize beN (ys.take 8) = u at HR2 HU HUB
    by_cases hcn : canonN u = u
    · have HF := Lib.hid (show res = some (V.flt u, 9) by rw [HR2.out, if_pos hcn])
      have hcb : ((canonN u : Int) == (u : Int)) = true := by simp [hcn]
      have HCN := Lib.hid hcn
      clear hcn
      go_enter Try.func67, Try.ntmps67
      go_wp2_with fail
      refine (readU1_c a1 c1 ys 8 _ (by omega) (HB.out.below HBB.out)).mono ?_
      rintro e w' ⟨rfl, rfl⟩
      rw [HU.out]
      go_wp2_with fail
      refine (float_c _ _).mono ?_
      rintro e w2 ⟨rfl, hb2⟩
      obtain ⟨⟨v0, v1, v2, v3, v4⟩, hfz⟩ := cells_of_block5 (block_below hb2 (block_alloc_at _ rfl))
      have HB2 := Lib.hid (HBB.out.trans (hb2.mono (by simp)))
      clear hb2
      go_wp2_with fail
      refine (bits1_c _ _).mono ?_
      rintro e w' ⟨rfl, rfl⟩
      go_wp2_with fail
      refine bodyPost_ret (v := .tuple #[.agg #[.int .i64 2, .int .i64 0, .float .f64 (canonN u), .string ⟨#[]⟩, .slice none 0 0], .int .i64 9, .bool true]) (by simp [results, Try.results67, go_sem, v0, v1, v2, v3, v4]) rfl ?_
      rw [HCN.out]
      exact (RetRd.flat 2 0 u ⟨#[]⟩ 9 9 rfl HF.out (VIn.flt HUB.out) (below5 HB2.out (Nat.le_refl _) _ _ _ _ _))
    · have HF := Lib.hid (show res = none by rw [HR2.out, if_neg hcn])
      have hcb : ((canonN u : Int) == (u : Int)) = false := by simp; omega
      clear hcn
      go_enter Try.func67, Try.ntmps67
      go_wp2_with fail
      refine (readU1_c a1 c1 ys 8 _ (by omega) (HB.out.below HBB.out)).mono ?_
      rintro e w' ⟨rfl, rfl⟩
      rw [HU.out]
      go_wp2_with fail
      refine (float_c _ _).mono ?_
      rintro e w2 ⟨rfl, hb2⟩
      obtain ⟨⟨v0, v1, v2, v3, v4⟩, hfz⟩ := cells_of_block5 (block_below hb2 (block_alloc_at _ rfl))
      have HB2 := Lib.hid (HBB.out.trans (hb2.mono (by simp)))
      clear hb2
      go_wp2_with fail
      refine (bits1_c _ _).mono ?_
      rintro e w' ⟨rfl, rfl⟩
      go_wp2_with fail
      exact bodyPost_ret (v := .tuple #[.agg #[.int .i64 2, .int .i64 0, .float .f64 (canonN u), .string ⟨#[]⟩, .slice none 0 0], .int .i64 9, .bool false]) (by simp [results, Try.results67, go_sem, v0, v1, v2, v3, v4]) rfl (RetRd.no (V.flt (canonN u)) rfl HF.out (below5 HB2.out (Nat.le_refl _) _ _ _ _ _))

set_option maxHeartbeats 1600000 in
theorem read1_k3 (d : Nat) (n : Int) (a : Option Addr) (c : Nat) (r : List Int) (w : World) (hn : n = 9 - (d + 1 : Nat)) (hl : ((3 : Int) :: r).length ≤ c ∧ c ≤ 9223372036854775807) (hc : a = none → c = 0) (hz : BIn w a ((3 : Int) :: r)) :
    Calls Try.prog 67 #[.slice a ((3 : Int) :: r).length c, .int .i64 n] w (RetRd w (rd false (d + 1) ((3 : Int) :: r))) := by
  obtain ⟨b, o, rfl, hcell, _, _⟩ := hz 0 (by simp)
  simp only [List.getElem_cons_zero, Nat.add_zero] at hcell
  obtain ⟨a1, c1, ys, hys, hl1, hc1, hbin, hsl⟩ := sub_at (some ⟨b, o, none⟩) c ((3 : Int) :: r) 1 (by simp) hl hc
  simp only [List.drop_succ_cons, List.drop_zero] at hys
  have hblt : b < w.heap.size := World.block_lt_of_cell? w _ hcell
  have HR := Lib.hid (rd_cons false d 3 r)
  generalize hre : rd false (d + 1) ((3 : Int) :: r) = res at HR ⊢
  generalize hlen : ((3 : Int) :: r).length = N at hl hsl ⊢
  have hN : 1 ≤ N := by rw [← hlen]; simp
  have hN0 : ((N : Int) == 0) = false := by simp; omega
  have hn8 : n ≤ 8 := by omega
  have hslz := hsl w
  have HB := Lib.hid (hbin w hz)
  have HSL := Lib.hid hsl
  have hyl : ys.length + 1 = N := by rw [hys, ← hlen]; simp
  subst hys
  clear hre hlen hbin hsl hz hc hn
  have HBB := Lib.hid ((Below.refl w.heap.size w).alloc (Nat.le_refl _) (.cells #[.int .i64 0, .int .i64 0, .float .f64 0, .string ⟨#[]⟩, .slice none 0 0] 43))
  have HSA : Hid ((Instr.slice 22 (.slice (some ⟨b, o, none⟩) N c) (some (.int .i64 1)) none none).run Try.prog (w.alloc (.cells #[.int .i64 0, .int .i64 0, .float .f64 0, .string ⟨#[]⟩, .slice none 0 0] 43)) = .ok (.slice a1 ys.length c1) (w.alloc (.cells #[.int .i64 0, .int .i64 0, .float .f64 0, .string ⟨#[]⟩, .slice none 0 0] 43))) := Lib.hid (HSL.out _)
  clear hslz
  have hs := HSA.out
  by_cases ht : (rtext ys 256).2.2 = 0
  · have HF := Lib.hid (show res = some (V.txt (rtext ys 256).1, 1 + (rtext ys 256).2.1.toNat) by rw [HR.out]; simp [ht])
    obtain ⟨q1, q2, q3, q4⟩ := rtext_ok ht
    have HT := Lib.hid q4
    have HSZ := Lib.hid (show (txtB ((ys.drop 2).take (beN (ys.take 2)))).size ≤ 140737488351232 by rw [txtB_size]; simp; omega)
    rw [HT.out] at HF
    clear q1 q3 q4 ht
    generalize txtB ((ys.drop 2).take (beN (ys.take 2))) = tx at HF HT HSZ
    generalize beN (ys.take 2) = u at HF HT q2
    have HU := Lib.hid (show ((1 + (2 + (u : Int)).toNat : Nat) : Int) = 1 + (2 + u) by omega)
    go_enter Try.func67, Try.ntmps67
    go_wp2_with fail
    refine (rtext1_c a1 c1 ys 256 _ hl1 (HB.out.below HBB.out)).mono ?_
    rintro e w' ⟨rfl, rfl⟩
    rw [HT.out]
    go_wp2_with fail
    refine (text_c _ _).mono ?_
    rintro e w2 ⟨rfl, hb2⟩
    obtain ⟨⟨v0, v1, v2, v3, v4⟩, hfz⟩ := cells_of_block5 (block_below hb2 (block_alloc_at _ rfl))
    have HB2 := Lib.hid (HBB.out.trans (hb2.mono (by simp)))
    clear hb2
    go_wp2_with fail
    refine bodyPost_ret (v := .tuple #[.agg #[.int .i64 3, .int .i64 0, .float .f64 0, .string tx, .slice none 0 0], .int .i64 (1 + (2 + u)), .bool true]) (by simp [results, Try.results67, go_sem, v0, v1, v2, v3, v4]) rfl ?_
    exact (RetRd.flat 3 0 0 tx _ _ HU.out.symm HF.out (VIn.txt HSZ.out) (below5 HB2.out (Nat.le_refl _) _ _ _ _ _))
  · have HF := Lib.hid (show res = none by rw [HR.out]; simp [ht])
    have htb : ((rtext ys 256).2.2 == 0) = false := by simpa using ht
    have hq : (rtext ys 256).1 = ⟨#[]⟩ ∧ (rtext ys 256).2.1 = 0 ∧ (rtext ys 256).2.2 = 20 := by
      unfold rtext at ht ⊢
      split
      · exact ⟨rfl, rfl, rfl⟩
      · split
        · exact ⟨rfl, rfl, rfl⟩
        · rename_i h1 h2; rw [if_neg h1, if_neg h2] at ht; exact absurd rfl ht
    have HQ := Lib.hid hq
    clear ht htb hq
    go_enter Try.func67, Try.ntmps67
    go_wp2_with fail
    refine (rtext1_c a1 c1 ys 256 _ hl1 (HB.out.below HBB.out)).mono ?_
    rintro e w' ⟨rfl, rfl⟩
    rw [HQ.out.1, HQ.out.2.1, HQ.out.2.2]
    go_wp2_with fail
    refine (text_c _ _).mono ?_
    rintro e w2 ⟨rfl, hb2⟩
    obtain ⟨⟨v0, v1, v2, v3, v4⟩, hfz⟩ := cells_of_block5 (block_below hb2 (block_alloc_at _ rfl))
    have HB2 := Lib.hid (HBB.out.trans (hb2.mono (by simp)))
    clear hb2
    go_wp2_with fail
    exact bodyPost_ret (v := .tuple #[.agg #[.int .i64 3, .int .i64 0, .float .f64 0, .string ⟨#[]⟩, .slice none 0 0], .int .i64 1, .bool false]) (by simp [results, Try.results67, go_sem, v0, v1, v2, v3, v4]) rfl (RetRd.no (V.txt ⟨#[]⟩) rfl HF.out (below5 HB2.out (Nat.le_refl _) _ _ _ _ _))

set_option maxHeartbeats 1600000 in
theorem read1_else (d : Nat) (n : Int) (a : Option Addr) (c : Nat) (z : Int) (r : List Int) (w : World) (hn : n = 9 - (d + 1 : Nat)) (hl : (z :: r).length ≤ c ∧ c ≤ 9223372036854775807) (hc : a = none → c = 0) (hz : BIn w a (z :: r)) (k0 : z ≠ 0) (k1 : z ≠ 1) (k2 : z ≠ 2) (k3 : z ≠ 3) (h4 : z ≠ 4) :
    Calls Try.prog 67 #[.slice a (z :: r).length c, .int .i64 n] w (RetRd w (rd false (d + 1) (z :: r))) := by
  obtain ⟨b, o, rfl, hcell, hz0, hz1⟩ := hz 0 (by simp)
  simp only [List.getElem_cons_zero, Nat.add_zero] at hcell hz0 hz1
  obtain ⟨a1, c1, ys, hys, hl1, hc1, hbin, hsl⟩ := sub_at (some ⟨b, o, none⟩) c (z :: r) 1 (by simp) hl hc
  simp only [List.drop_succ_cons, List.drop_zero] at hys
  have hblt : b < w.heap.size := World.block_lt_of_cell? w _ hcell
  have HR := Lib.hid (rd_cons false d z r)
  generalize hre : rd false (d + 1) (z :: r) = res at HR ⊢
  generalize hlen : (z :: r).length = N at hl hsl ⊢
  have hN : 1 ≤ N := by rw [← hlen]; simp
  have hN0 : ((N : Int) == 0) = false := by simp; omega
  have hn8 : n ≤ 8 := by omega
  have hslz := hsl w
  have HB := Lib.hid (hbin w hz)
  have HSL := Lib.hid hsl
  have hyl : ys.length + 1 = N := by rw [hys, ← hlen]; simp
  subst hys
  clear hre hlen hbin hsl hz hc hn
  have HBB := Lib.hid ((Below.refl w.heap.size w).alloc (Nat.le_refl _) (.cells #[.int .i64 0, .int .i64 0, .float .f64 0, .string ⟨#[]⟩, .slice none 0 0] 43))
  have HSA : Hid ((Instr.slice 22 (.slice (some ⟨b, o, none⟩) N c) (some (.int .i64 1)) none none).run Try.prog (w.alloc (.cells #[.int .i64 0, .int .i64 0, .float .f64 0, .string ⟨#[]⟩, .slice none 0 0] 43)) = .ok (.slice a1 ys.length c1) (w.alloc (.cells #[.int .i64 0, .int .i64 0, .float .f64 0, .string ⟨#[]⟩, .slice none 0 0] 43))) := Lib.hid (HSL.out _)
  clear hslz
  have HF := Lib.hid (show res = none by rw [HR.out]; simp [k0, k1, k2, k3, h4])
  go_enter Try.func67, Try.ntmps67
  go_wp2_with fail
  exact bodyPost_ret (v := .tuple #[.agg #[.int .i64 0, .int .i64 0, .float .f64 0, .string ⟨#[]⟩, .slice none 0 0], .int .i64 0, .bool false]) (by simp [results, Try.results67, go_sem]) rfl (RetRd.no V.nil rfl HF.out HBB.out)

theorem read1_flat (d : Nat) (n : Int) (a : Option Addr) (c : Nat) (z : Int) (r : List Int) (w : World) (hn : n = 9 - (d + 1 : Nat)) (hl : (z :: r).length ≤ c ∧ c ≤ 9223372036854775807) (hc : a = none → c = 0) (hz : BIn w a (z :: r)) (h4 : z ≠ 4) :
    Calls Try.prog 67 #[.slice a (z :: r).length c, .int .i64 n] w (RetRd w (rd false (d + 1) (z :: r))) := by
  by_cases k0 : z = 0
  · subst k0; exact read1_k0 d n a c r w hn hl hc hz
  by_cases k1 : z = 1
  · subst k1; exact read1_k1 d n a c r w hn hl hc hz
  by_cases k2 : z = 2
  · subst k2; exact read1_k2 d n a c r w hn hl hc hz
  by_cases k3 : z = 3
  · subst k3; exact read1_k3 d n a c r w hn hl hc hz
  · exact read1_else d n a c z r w hn hl hc hz k0 k1 k2 k3 h4
end Go.Proofs.Ytkhgbbloeeaceaa
