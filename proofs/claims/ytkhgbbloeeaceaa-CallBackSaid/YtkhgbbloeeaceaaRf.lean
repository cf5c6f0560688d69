/- The reader: lists. -/
import Derived.Test.YtkhgbbloeeaceaaRb
import Derived.Test.YtkhgbbloeeaceaaR
namespace Go.Proofs.Ytkhgbbloeeaceaa
open Go Go.RowKit
set_option maxRecDepth 16000
attribute [local go_sem ↓] run_store_float

def ValC (d : Nat) : Prop := ∀ (rb : Nat) (a : Option Addr) (c : Nat) (zs : List Int) (l : Nat) (w : World), (zs.length ≤ 140737488355328 ∧ zs.length ≤ c ∧ c ≤ 9223372036854775807) → l ≤ zs.length → (a = none → c = 0) → rbk w rb a zs.length c l d → BIn w a zs →
  Calls Try.prog 86 #[.pointer (some ⟨rb, 0, none⟩)] w (RetV2 w rb a zs.length c l d (rd true (d + 1) (zs.drop l)))

/-- The world ahead of a call, the reader turned as the call turns it. -/
theorem But.below_set {rb : Nat} {w w' : World} {a : Option Addr} {N c : Nat} {x y d : Int} (h : But rb w w') (h1 : rbk w rb a N c x d) (h2 : rbk w' rb a N c y d) : Below (w.setCell ⟨rb, 1, none⟩ (.int .i64 y)).heap.size (w.setCell ⟨rb, 1, none⟩ (.int .i64 y)) w' := by
  refine ⟨h.os, h.tape, h.output, by simpa using h.size, fun k hk => ?_⟩
  by_cases e : k = rb
  · subst e
    have := h1.set1 y
    unfold rbk at this h2
    rw [h2, this]
  · rw [h.block k (by simpa using hk) (fun e2 => e (Option.some.inj e2)), Below.heap_setCell _ _ _ _ (show k ≠ rb from e)]

theorem But.belowB {rb B : Nat} {w w1 w2 : World} (h : But rb w w1) (g : Below B w1 w2) (hB : w.heap.size ≤ B) : But rb w w2 :=
  ⟨g.os.trans h.os, g.tape.trans h.tape, g.output.trans h.output, Nat.le_trans h.size g.size, fun k hk hne => by rw [g.block k (by omega), h.block k hk hne]⟩
/-- The state of a list that is being read. -/
structure LSv (w wr : World) (rb : Nat) (a : Option Addr) (N c : Nat) (at_ dp : Int) (vb : Nat) (oa : Option Addr) (oc : Nat) (ps : List (V × Value)) : Prop where
  own : OwnV 43 (vb + 1) wr (.slice oa ps.length oc) ps
  r1 : wr.heap[w.heap.size]? = some (.cells #[.int .i64 0, .int .i64 0, .float .f64 0, .string ⟨#[]⟩, .slice none 0 0] 43)
  r2 : wr.heap[vb]? = some (.cells #[.int .i64 4, .int .i64 0, .float .f64 0, .string ⟨#[]⟩, .slice oa ps.length oc] 43)
  rk : rbk wr rb a N c at_ dp
  but : But rb w wr

set_option maxHeartbeats 1600000 in
theorem value_l0 (d : Nat) (rb : Nat) (a : Option Addr) (c : Nat) (zs : List Int) (l : Nat) (w : World) (hd : d = 0) (r : List Int) (hl : zs.length ≤ 140737488355328 ∧ zs.length ≤ c ∧ c ≤ 9223372036854775807) (hc : a = none → c = 0) (hr : rbk w rb a zs.length c l d) (hz : BIn w a zs) (hdr : zs.drop l = (4 : Int) :: r) :
    Calls Try.prog 86 #[.pointer (some ⟨rb, 0, none⟩)] w (RetV2 w rb a zs.length c l d (rd true (d + 1) ((4 : Int) :: r))) := by
  have HRD := Lib.hid (rd_cons true d (4 : Int) r)
  have hd0 : zs.drop l = (4 : Int) :: r := hdr
  have hll : l + 1 ≤ zs.length := by have := congrArg List.length hd0; simp at this; omega
  have hbe : beN ((zs.drop l).take 1) = (4 : Int) := by rw [hd0]; simp [beN]
  have HBE := Lib.hid hbe
  generalize hre : rd true (d + 1) ((4 : Int) :: r) = res at HRD ⊢
  have HD0 := Lib.hid hd0
  have HZ := Lib.hid hz
  have HR0 := Lib.hid hr
  have HC := Lib.hid hc
  have hrlt := hr.cells.2.2
  clear hre hd0 hbe hz hr hc hdr
  have HAL := Lib.hid (fun o => ((Below.refl w.heap.size w).alloc (Nat.le_refl _) o : Below w.heap.size w (w.alloc o)))
  go_enter Try.func86, Try.ntmps86
  go_wp2_with fail
  refine (number_ok rb a c zs l d 1 _ (by omega) hl (by omega) HC.out (HR0.out.below (HAL.out _)) (HZ.out.below (HAL.out _)) hll).mono ?_
  rintro e w1 ⟨rfl, hr1, hb1⟩
  rw [HBE.out]
  have hR1 : w1.heap[w.heap.size]? = some (.cells #[.int .i64 0, .int .i64 0, .float .f64 0, .string ⟨#[]⟩, .slice none 0 0] 43) := hb1.obj (Nat.ne_of_gt hrlt) (block_alloc_at _ rfl)
  have HR1 := Lib.hid hR1
  have HK1 := Lib.hid hr1
  have hbw1 : But rb w w1 := (But.of_below (HAL.out _)).trans hb1
  have HB1 := Lib.hid hbw1
  have HZ1 := Lib.hid ((HZ.out.below (HAL.out _)).but (HR0.out.below (HAL.out _)) hb1)
  obtain ⟨⟨r0, r1, r2, r3, r4⟩, hfr⟩ := cells_of_block5 hR1
  have hz1 : w.heap.size < w1.heap.size := World.block_lt_of_cell? _ _ r0
  have hne : rb ≠ w.heap.size := Nat.ne_of_lt hrlt
  have HNE := Lib.hid hne
  have hrl : r.length + l + 1 = zs.length := by have := congrArg List.length HD0.out; simp at this; omega
  have HDR := Lib.hid (show zs.drop (l + 1) = r by rw [← List.drop_drop, HD0.out]; rfl)
  have HAL1 := Lib.hid (fun o => ((Below.refl w1.heap.size w1).alloc (Nat.le_refl _) o : Below w1.heap.size w1 (w1.alloc o)))
  clear hR1 hr1 hb1 hbw1 hne
  have HF := Lib.hid (show res = none by rw [HRD.out, hd]; simp)
  subst hd
  obtain ⟨⟨k0, k1, k2⟩, hkf, _⟩ := HK1.out.cells
  clear r0 r1 r2 r3 r4 hfr hkf
  go_wp2_with fail
  refine (must_no _).mono ?_
  rintro e w' ⟨rfl, rfl⟩
  exact ⟨rfl, RetV2.no HF.out (HB1.out.alloc _)⟩

set_option maxHeartbeats 1600000 in
theorem value_l1 (d : Nat) (rb : Nat) (a : Option Addr) (c : Nat) (zs : List Int) (l : Nat) (w : World) (e : Nat) (ih : ValC e) (hd : d = e + 1) (hd8 : d ≤ 8) (r : List Int) (hl : zs.length ≤ 140737488355328 ∧ zs.length ≤ c ∧ c ≤ 9223372036854775807) (hc : a = none → c = 0) (hr : rbk w rb a zs.length c l d) (hz : BIn w a zs) (hdr : zs.drop l = (4 : Int) :: r) :
    Calls Try.prog 86 #[.pointer (some ⟨rb, 0, none⟩)] w (RetV2 w rb a zs.length c l d (rd true (d + 1) ((4 : Int) :: r))) := by
  have HRD := Lib.hid (fun z r2 (h : r = z :: r2) => show rd true (d + 1) ((4 : Int) :: r) = if 64 < z then none else rdLst (rdItems (rd true d) z.toNat r2) by rw [h, rd_four, if_neg (by omega)])
  have hd0 : zs.drop l = (4 : Int) :: r := hdr
  have hll : l + 1 ≤ zs.length := by have := congrArg List.length hd0; simp at this; omega
  have hbe : beN ((zs.drop l).take 1) = (4 : Int) := by rw [hd0]; simp [beN]
  have HBE := Lib.hid hbe
  have HRN := Lib.hid (fun h : r = [] => show rd true (d + 1) ((4 : Int) :: r) = none by rw [h, rd_cons]; simp)
  generalize hre : rd true (d + 1) ((4 : Int) :: r) = res at HRD HRN ⊢
  have HD0 := Lib.hid hd0
  have HZ := Lib.hid hz
  have HR0 := Lib.hid hr
  have HC := Lib.hid hc
  have hrlt := hr.cells.2.2
  clear hre hd0 hbe hz hr hc hdr
  have HAL := Lib.hid (fun o => ((Below.refl w.heap.size w).alloc (Nat.le_refl _) o : Below w.heap.size w (w.alloc o)))
  go_enter Try.func86, Try.ntmps86
  go_wp2_with fail
  refine (number_ok rb a c zs l d 1 _ (by omega) hl (by omega) HC.out (HR0.out.below (HAL.out _)) (HZ.out.below (HAL.out _)) hll).mono ?_
  rintro e w1 ⟨rfl, hr1, hb1⟩
  rw [HBE.out]
  have hR1 : w1.heap[w.heap.size]? = some (.cells #[.int .i64 0, .int .i64 0, .float .f64 0, .string ⟨#[]⟩, .slice none 0 0] 43) := hb1.obj (Nat.ne_of_gt hrlt) (block_alloc_at _ rfl)
  have HR1 := Lib.hid hR1
  have HK1 := Lib.hid hr1
  have hbw1 : But rb w w1 := (But.of_below (HAL.out _)).trans hb1
  have HB1 := Lib.hid hbw1
  have HZ1 := Lib.hid ((HZ.out.below (HAL.out _)).but (HR0.out.below (HAL.out _)) hb1)
  obtain ⟨⟨r0, r1, r2, r3, r4⟩, hfr⟩ := cells_of_block5 hR1
  have hz1 : w.heap.size < w1.heap.size := World.block_lt_of_cell? _ _ r0
  have hne : rb ≠ w.heap.size := Nat.ne_of_lt hrlt
  have HNE := Lib.hid hne
  have hrl : r.length + l + 1 = zs.length := by have := congrArg List.length HD0.out; simp at this; omega
  have HDR := Lib.hid (show zs.drop (l + 1) = r by rw [← List.drop_drop, HD0.out]; rfl)
  have HAL1 := Lib.hid (fun o => ((Below.refl w1.heap.size w1).alloc (Nat.le_refl _) o : Below w1.heap.size w1 (w1.alloc o)))
  clear hR1 hr1 hb1 hbw1 hne
  generalize hlx : l + 1 = l1 at HK1 HDR hll
  have hrl1 : r.length + l1 = zs.length := by omega
  have HLX := Lib.hid hlx
  have hd0 : (0 : Int) < (d : Int) := by omega
  have hE : (d : Int) - 1 = (e : Int) := by omega
  have HE := Lib.hid hE
  have IH := Lib.hid ih
  have HDE := Lib.hid hd
  clear hlx hrl hE hd ih
  obtain ⟨⟨k0, k1, k2⟩, hkf, hkl⟩ := HK1.out.cells
  have hf2 := hkf 2
  have hne1 : ¬ rb = w1.heap.size := by omega
  have hne2 : ¬ w1.heap.size = rb := by omega
  clear r0 r1 r2 r3 r4 hfr hkf
  go_wp2_with fail
  rw [show decide (0 < d) = true from decide_eq_true (by omega)]
  refine (must_ok _).mono ?_
  rintro e' w' ⟨rfl, rfl⟩
  go_wp2_with fail
  rw [HE.out]
  have HK2 := Lib.hid ((HK1.out.set2 (e : Int)).alloc (.cells #[.int .i64 4, .int .i64 0, .float .f64 0, .string ⟨#[]⟩, .slice none 0 0] 43))
  have HB2 := Lib.hid ((HB1.out.set 2 (.int .i64 (e : Int))).alloc (.cells #[.int .i64 4, .int .i64 0, .float .f64 0, .string ⟨#[]⟩, .slice none 0 0] 43))
  have HR2 := Lib.hid (block_alloc_old (.cells #[.int .i64 4, .int .i64 0, .float .f64 0, .string ⟨#[]⟩, .slice none 0 0] 43) (block_setCell (a := ⟨rb, 2, none⟩) (u := .int .i64 (e : Int)) (Ne.symm HNE.out) HR1.out))
  have HV2 := Lib.hid (block_alloc_at (w := w1.setCell ⟨rb, 2, none⟩ (.int .i64 (e : Int))) (n := w1.heap.size) (.cells #[.int .i64 4, .int .i64 0, .float .f64 0, .string ⟨#[]⟩, .slice none 0 0] 43) (by simp))
  clear k0 k1 k2 hf2
  generalize ((w1.setCell ⟨rb, 2, none⟩ (.int .i64 (e : Int))).alloc (.cells #[.int .i64 4, .int .i64 0, .float .f64 0, .string ⟨#[]⟩, .slice none 0 0] 43)) = w2 at *
  generalize hvb : w1.heap.size = vb at *
  have HZ2 := Lib.hid (HZ.out.but HR0.out HB2.out)
  have HVB := Lib.hid (show w.heap.size < vb ∧ rb < vb by omega)
  clear HZ1 HB1 HK1 HR1 HAL1 hvb w1
  cases r with
  | nil =>
    have HF := Lib.hid (HRN.out rfl)
    simp only [List.length_nil] at hrl1
    refine (number_no rb a c zs l1 e 1 _ (by omega) hl (by omega) HC.out HK2.out HZ2.out (by omega)).mono ?_
    rintro e' w3 ⟨rfl, hb3⟩
    exact ⟨rfl, RetV2.no HF.out (HB2.out.trans hb3)⟩
  | cons z r2 =>
    have HQ := Lib.hid (HRD.out z r2 rfl)
    simp only [List.length_cons] at hrl1
    have hz01 : 0 ≤ z ∧ z ≤ 255 := by
      have : z ∈ zs := List.mem_of_mem_drop (by rw [HDR.out]; simp : z ∈ zs.drop l1)
      exact HZ.out.byt z this
    obtain ⟨zN, rfl⟩ : ∃ zN : Nat, z = zN := ⟨z.toNat, by omega⟩
    have HBN := Lib.hid (show beN ((zs.drop l1).take 1) = zN by rw [HDR.out]; simp [beN])
    have HDR2 := Lib.hid (show zs.drop (l1 + 1) = r2 by rw [← List.drop_drop, HDR.out]; rfl)
    refine (number_ok rb a c zs l1 e 1 _ (by omega) hl (by omega) HC.out HK2.out HZ2.out (by omega)).mono ?_
    rintro e' w3 ⟨rfl, hr3, hb3⟩
    rw [HBN.out]
    have HK3 := Lib.hid hr3
    have HB3 := Lib.hid (HB2.out.trans hb3)
    have HR3 := Lib.hid (hb3.obj (Ne.symm HNE.out) HR2.out)
    have HV3 := Lib.hid (hb3.obj (show vb ≠ rb by have := HVB.out; omega) HV2.out)
    generalize hl2 : l1 + 1 = l2 at HK3 HDR2
    have hrl2 : r2.length + l2 = zs.length := by omega
    have HLX2 := Lib.hid hl2
    clear hr3 hb3 HK2 HB2 HR2 HV2 HZ2 hl2 hrl1 w2
    go_wp2_with fail
    by_cases h64 : 64 < zN
    · have HF := Lib.hid (show res = none by rw [HQ.out, if_pos (by omega)])
      rw [show decide ((zN : Int) ≤ 64) = false from decide_eq_false (by omega)]
      refine (must_no _).mono ?_
      rintro e' w' ⟨rfl, rfl⟩
      exact ⟨rfl, RetV2.no HF.out HB3.out⟩
    · have HF := Lib.hid (show res = rdLst (rdItems (rd true d) zN r2) by rw [HQ.out, if_neg (by omega)]; rfl)
      rw [show decide ((zN : Int) ≤ 64) = true from decide_eq_true (by omega)]
      refine (must_ok _).mono ?_
      rintro e' w' ⟨rfl, rfl⟩
      go_wp2_with fail
      go_loopw [87] (fun j wr => ∃ (m k : Nat) (ps : List (V × Value)) (oa : Option Addr) (oc : Nat), m ≤ zN ∧ j = .int .u64 m ∧ rdItems (rd true d) m r2 = some (ps.map Prod.fst, k) ∧ LSv w wr rb a zs.length c ((l2 + k : Nat) : Int) e vb oa oc ps) (fun j _ => zN - (intOf j).toNat)
      case atStart => exact ⟨0, 0, [], none, 0, by omega, rfl, rfl, OwnV.nil _ _ _, HR3.out, HV3.out, HK3.out, HB3.out⟩
      case round =>
        obtain ⟨m, k, ps, oa, oc, hm, rfl, hrd, hst⟩ := hrel
        have hkr : k ≤ r2.length := rdItems_le _ (rd_le true d) hrd
        have hpl := rdItems_length _ hrd
        rw [List.length_map] at hpl
        have HRI := Lib.hid hrd
        have HS := Lib.hid hst
        have HPL := Lib.hid hpl
        have HZr := Lib.hid (HZ.out.but HR0.out hst.but)
        have HD2 := Lib.hid (show zs.drop (l2 + k) = r2.drop k by rw [← List.drop_drop, HDR2.out])
        obtain ⟨⟨v0, v1, v2, v3, v4⟩, hfv⟩ := cells_of_block5 hst.r2
        have hf4 := hfv 4
        have hvl : vb < wr.heap.size := World.block_lt_of_cell? _ _ v0
        clear hrd hst hpl hfv v0 v1 v2 v3
        by_cases hlt : m < zN
        · cases hx : rd true d (r2.drop k) with
          | none =>
            have HX := Lib.hid hx
            have HF2 := Lib.hid (show res = none by
              rw [HF.out, show zN = (m + 1) + (zN - (m + 1)) by omega, rdItems_none _ (by rw [rdItems_snoc, HRI.out]; simp only; rw [HX.out])]
              rfl)
            clear hx
            go_wp2_with fail
            refine wp_region_T (fun w' => w'.cell? ⟨vb, 4, none⟩ = some (.slice oa ps.length oc) ∧ w'.frozen? ⟨vb, 4, none⟩ = false) 7 (by kernel_rfl) ⟨v4, hf4⟩ (fun hT => ?_)
            refine T_take 0 hT rfl (by kernel_rfl) (by kernel_rfl) (by kernel_rfl) (by kernel_rfl) (fun _ _ _ h => h) (by rfl) (by (intro w' hw'; (try dsimp only at hw'); go_simp; try with_reducible rfl)) ?_
            try simp only [Act.put, List.setIfInBounds_toArray, List.set_cons_zero, List.set_cons_succ]
            refine T_take 1 hT rfl (by kernel_rfl) (by kernel_rfl) (by kernel_rfl) (by kernel_rfl) (fun _ _ _ h => h) (by rfl) (by (intro w' hw'; (try dsimp only at hw'); go_simp; try with_reducible rfl)) ?_
            try simp only [Act.put, List.setIfInBounds_toArray, List.set_cons_zero, List.set_cons_succ]
            refine T_take 2 hT rfl (by kernel_rfl) (by kernel_rfl) (by kernel_rfl) (by kernel_rfl) (fun _ _ _ h => h) (by rfl) (by (intro w' hw'; (try dsimp only at hw'); go_simp; try with_reducible rfl)) ?_
            try simp only [Act.put, List.setIfInBounds_toArray, List.set_cons_zero, List.set_cons_succ]
            refine T_one 3 rfl (by kernel_rfl) (by decide) (fun K hK => ?_)
            rw [if_pos (by rfl)]
            go_simp
            refine (IH.out rb a c zs (l2 + k) _ hl (by omega) HC.out (HS.out.rk.below (Below.refl _ _).drew) (HZr.out.below (Below.refl _ _).drew)).mono ?_
            rintro e' w5 ⟨hb5, h5⟩
            rw [HD2.out, ← HDE.out, HX.out] at h5
            simp only at h5
            subst h5
            exact ⟨rfl, RetV2.no HF2.out (HS.out.but.trans ((But.of_below (Below.refl _ _).drew).trans hb5))⟩
          | some p =>
            obtain ⟨v, n⟩ := p
            have HX := Lib.hid hx
            have HRD2 := Lib.hid (show rdItems (rd true d) (m + 1) r2 = some (ps.map Prod.fst ++ [v], k + n) by
              rw [rdItems_snoc, HRI.out]; simp only; rw [HX.out])
            clear hx
            go_wp2_with fail
            refine wp_region_T (fun w' => w'.cell? ⟨vb, 4, none⟩ = some (.slice oa ps.length oc) ∧ w'.frozen? ⟨vb, 4, none⟩ = false) 7 (by kernel_rfl) ⟨v4, hf4⟩ (fun hT => ?_)
            refine T_take 0 hT rfl (by kernel_rfl) (by kernel_rfl) (by kernel_rfl) (by kernel_rfl) (fun _ _ _ h => h) (by rfl) (by (intro w' hw'; (try dsimp only at hw'); go_simp; try with_reducible rfl)) ?_
            try simp only [Act.put, List.setIfInBounds_toArray, List.set_cons_zero, List.set_cons_succ]
            refine T_take 1 hT rfl (by kernel_rfl) (by kernel_rfl) (by kernel_rfl) (by kernel_rfl) (fun _ _ _ h => h) (by rfl) (by (intro w' hw'; (try dsimp only at hw'); go_simp; try with_reducible rfl)) ?_
            try simp only [Act.put, List.setIfInBounds_toArray, List.set_cons_zero, List.set_cons_succ]
            refine T_take 2 hT rfl (by kernel_rfl) (by kernel_rfl) (by kernel_rfl) (by kernel_rfl) (fun _ _ _ h => h) (by rfl) (by (intro w' hw'; (try dsimp only at hw'); go_simp; try with_reducible rfl)) ?_
            try simp only [Act.put, List.setIfInBounds_toArray, List.set_cons_zero, List.set_cons_succ]
            refine T_one 3 rfl (by kernel_rfl) (by decide) (fun K hK => ?_)
            rw [if_pos (by rfl)]
            go_simp
            refine (IH.out rb a c zs (l2 + k) _ hl (by omega) HC.out (HS.out.rk.below (Below.refl _ _).drew) (HZr.out.below (Below.refl _ _).drew)).mono ?_
            rintro e' w5 ⟨hb5, h5⟩
            rw [HD2.out, ← HDE.out, HX.out] at h5
            simp only at h5
            obtain ⟨sa, sc, rfl, hv5, hk5⟩ := h5
            have HB5 := Lib.hid hb5
            have HV5 := Lib.hid hv5
            have HK5 := Lib.hid hk5
            have hvr : vb ≠ rb := by have := HVB.out; omega
            have HVR := Lib.hid hvr
            have hc5 : w5.cell? ⟨vb, 4, none⟩ = some (.slice oa ps.length oc) := by rw [hb5.cell_far ⟨vb, 4, none⟩ hvl (fun e => hvr (Option.some.inj e))]; exact hT.1
            have hf5 : w5.frozen? ⟨vb, 4, none⟩ = false := by rw [hb5.frozen_far ⟨vb, 4, none⟩ hvl (fun e => hvr (Option.some.inj e))]; exact hT.2
            have hl5 : vb < w5.heap.size := World.block_lt_of_cell? _ _ hc5
            refine hK _ _ ⟨hc5, hf5⟩ (fun hT5 => ?_)
            clear hK hb5 hv5 hk5 hT v4 hf4
            have HAL5 := Lib.hid (fun o => ((Below.refl w5.heap.size w5).alloc (Nat.le_refl _) o : Below w5.heap.size w5 (w5.alloc o)))
            try simp only [Act.put, List.setIfInBounds_toArray, List.set_cons_zero, List.set_cons_succ]
            refine T_one 4 rfl (by kernel_rfl) (by decide) (fun K hK => ?_)
            rw [if_pos (by rfl)]
            go_simp
            refine hK _ _ ⟨keepc (HAL5.out _) hc5, keepf (HAL5.out _) hl5 hf5⟩ (fun hT6 => ?_)
            clear hK
            try simp only [Act.put, List.setIfInBounds_toArray, List.set_cons_zero, List.set_cons_succ]
            refine T_one 5 rfl (by kernel_rfl) (by decide) (fun K hK => ?_)
            have HW0 := Lib.hid (HB5.out.below_set (HS.out.rk.below (Below.refl _ _).drew) HK5.out)
            refine step_appendV rfl _ _ rfl ((HS.out.own.drew).setCell (show rb < vb + 1 by have := HVB.out; omega) _) HW0.out (by simp; omega) (by simpa using HV5.out) rfl rfl (by have := HPL.out; omega) ?_
            intro g cap w8 hown8 hb8 hlt8 hlt8'
            have HO8 := Lib.hid hown8
            have HB8 := Lib.hid hb8
            have hc8 := keepcB hb8 (show vb < vb + 1 by omega) hc5
            have hf8 := keepfB hb8 (show vb < vb + 1 by omega) hf5
            refine hK _ _ ⟨hc8, hf8⟩ (fun hT8 => ?_)
            clear hK
            try simp only [Act.put, List.setIfInBounds_toArray, List.set_cons_zero, List.set_cons_succ]
            refine T_take 6 hT8 rfl (by kernel_rfl) (by kernel_rfl) (by kernel_rfl) (by kernel_rfl) (fun _ _ _ h => h) (by rfl) (by (intro w' hw'; (try dsimp only at hw'); go_simp; try with_reducible rfl)) ?_
            try simp only [Act.put, List.setIfInBounds_toArray, List.set_cons_zero, List.set_cons_succ]
            refine T_last rfl (by kernel_rfl) (by kernel_rfl) (fun K hK => ?_)
            rw [if_pos (by rfl)]
            go_simp
            refine hK _ _ ?_
            have HR8 := Lib.hid (block_belowB hb8 (show w.heap.size < vb + 1 by have := HVB.out; omega) (HB5.out.obj (Ne.symm HNE.out) (show wr.drew.heap[w.heap.size]? = _ from HS.out.r1)))
            have HV8 := Lib.hid (block_belowB hb8 (show vb < vb + 1 by omega) (HB5.out.obj HVR.out (show wr.drew.heap[vb]? = _ from HS.out.r2)))
            have HK8 := Lib.hid (show rbk w8 rb a zs.length c ((l2 + k + n : Nat) : Int) e from block_belowB hb8 (show rb < vb + 1 by have := HVB.out; omega) HK5.out)
            have HBT := Lib.hid (show But rb w w8 from (HS.out.but.trans ((But.of_below (Below.refl _ _).drew).trans HB5.out)).belowB hb8 (by have := HVB.out; omega))
            clear hK hT5 hT6 hT8 hc5 hf5 hc8 hf8 hb8 hown8
            go_wp2_with fail
            go_roundw
            case rel =>
              refine ⟨m + 1, k + n, ps ++ [(v, .slice sa v.l.length sc)], some ⟨g, 0, none⟩, cap, by omega, by go_num, by rw [HRD2.out]; simp, ⟨?_, ?_, ?_, ?_, ?_⟩⟩
              · rw [List.length_append]
                exact HO8.out.setCell (show vb < vb + 1 by omega) _
              · exact block_setCell (show w.heap.size ≠ vb by have := HVB.out; omega) HR8.out
              · rw [List.length_append]
                exact block_setCell_self HV8.out
              · rw [← Nat.add_assoc]
                exact HK8.out.set_far (Ne.symm HVR.out) _ _
              · exact HBT.out.set_new (by have := HVB.out; omega) _ _
            case measure => simp [intOf]; omega
        · have hmz : zN = m := by omega
          have HF2 := Lib.hid (show res = some (V.mk 4 0 0 ⟨#[]⟩ (ps.map Prod.fst), 2 + k) by rw [HF.out, hmz, HRI.out]; rfl)
          have hOL := HS.out.own.list (by have := HPL.out; omega)
          have HOL := Lib.hid hOL
          obtain ⟨⟨v0, v1, v2, v3, v4⟩, hfv⟩ := cells_of_block5 HS.out.r2
          obtain ⟨⟨r0, r1, r2', r3, r4⟩, hfr⟩ := cells_of_block5 HS.out.r1
          obtain ⟨⟨k0, k1, k2⟩, hkf, hkl⟩ := HS.out.rk.cells
          have hf2 := hkf 2
          have hne1 : ¬ rb = vb := by have := HVB.out; omega
          have hne2 : ¬ vb = rb := by have := HVB.out; omega
          have hne3 : ¬ rb = w.heap.size := HNE.out
          have hne4 : ¬ w.heap.size = rb := Ne.symm HNE.out
          have hne5 : ¬ w.heap.size = vb := by have := HVB.out; omega
          have hne6 : ¬ vb = w.heap.size := by have := HVB.out; omega
          have he8 : (e : Int) ≤ 8 := by have := HDE.out; omega
          clear hOL hkf hf4
          go_wp2_with fail
          refine bodyPost_ret (v := .agg #[.int .i64 4, .int .i64 0, .float .f64 0, .string ⟨#[]⟩, .slice oa ps.length oc]) (by simp [results, Try.results86, go_sem, r0, r1, r2', r3, r4]) rfl
            (RetV2.mk oa oc (2 + k) HF2.out (by simp) ?_ ?_ ((HS.out.but.set 2 _).set5 (Nat.le_refl _) _ _ _ _ _))
          · exact HOL.out.keep (fun b hD _ => (heap5 _ _ _ _ _ _ (fun e => by have : vb + 1 ≤ b := hD; have := HVB.out; omega)).trans (Below.heap_setCell _ _ _ _ (show b ≠ rb by have : vb + 1 ≤ b := hD; have := HVB.out; omega))) (fun b hD _ => by have : vb + 1 ≤ b := hD; have := HVB.out; show w.heap.size ≤ b; omega)
          · rw [show (d : Int) = (e : Int) + 1 by have := HDE.out; omega, show l + (2 + k) = l2 + k by have := HLX.out; have := HLX2.out; omega]
            exact (HS.out.rk.set2 _).set5 HNE.out _ _ _ _ _

theorem value_none (d : Nat) (rb : Nat) (a : Option Addr) (c : Nat) (zs : List Int) (l : Nat) (w : World) (hl : zs.length ≤ 140737488355328 ∧ zs.length ≤ c ∧ c ≤ 9223372036854775807) (hll : l ≤ zs.length) (hc : a = none → c = 0) (hr : rbk w rb a zs.length c l d) (hz : BIn w a zs) (hdr : zs.drop l = []) :
    Calls Try.prog 86 #[.pointer (some ⟨rb, 0, none⟩)] w (RetV2 w rb a zs.length c l d none) := by
  have hll : zs.length ≤ l := by simpa using hdr
  have HZ := Lib.hid hz
  have HR0 := Lib.hid hr
  have HC := Lib.hid hc
  clear hz hr hc hdr
  have HAL := Lib.hid (fun o => ((Below.refl w.heap.size w).alloc (Nat.le_refl _) o : Below w.heap.size w (w.alloc o)))
  go_enter Try.func86, Try.ntmps86
  go_wp2_with fail
  refine (number_no rb a c zs l d 1 _ (by omega) hl (by omega) HC.out (HR0.out.below (HAL.out _)) (HZ.out.below (HAL.out _)) (by omega)).mono ?_
  rintro e' w1 ⟨rfl, hb1⟩
  exact ⟨rfl, RetV2.no rfl ((But.of_below (HAL.out _)).trans hb1)⟩

theorem value_c : ∀ d : Nat, d ≤ 8 → ValC d := by
  intro d
  induction d with
  | zero =>
    intro _ rb a c zs l w hl hll hc hr hz
    cases hdr : zs.drop l with
    | nil => rw [rd_nil]; exact value_none 0 rb a c zs l w hl hll hc hr hz hdr
    | cons z r =>
      by_cases k0 : z = 0
      · subst k0; exact value_k0 0 rb a c zs l w r hl hc hr hz hdr
      by_cases k1 : z = 1
      · subst k1; exact value_k1 0 rb a c zs l w r hl hc hr hz hdr
      by_cases k2 : z = 2
      · subst k2; exact value_k2 0 rb a c zs l w r hl hc hr hz hdr
      by_cases k3 : z = 3
      · subst k3; exact value_k3 0 rb a c zs l w r hl hc hr hz hdr
      by_cases k4 : z = 4
      · subst k4; exact value_l0 0 rb a c zs l w rfl r hl hc hr hz hdr
      · exact value_else 0 rb a c zs l w z k0 k1 k2 k3 k4 (hz.byt z (List.mem_of_mem_drop (by rw [hdr]; simp : z ∈ zs.drop l))) r hl hc hr hz hdr
  | succ d ih =>
    intro hd rb a c zs l w hl hll hc hr hz
    cases hdr : zs.drop l with
    | nil => rw [rd_nil]; exact value_none (d + 1) rb a c zs l w hl hll hc hr hz hdr
    | cons z r =>
      by_cases k0 : z = 0
      · subst k0; exact value_k0 (d + 1) rb a c zs l w r hl hc hr hz hdr
      by_cases k1 : z = 1
      · subst k1; exact value_k1 (d + 1) rb a c zs l w r hl hc hr hz hdr
      by_cases k2 : z = 2
      · subst k2; exact value_k2 (d + 1) rb a c zs l w r hl hc hr hz hdr
      by_cases k3 : z = 3
      · subst k3; exact value_k3 (d + 1) rb a c zs l w r hl hc hr hz hdr
      by_cases k4 : z = 4
      · subst k4; exact value_l1 (d + 1) rb a c zs l w d (ih (by omega)) rfl hd r hl hc hr hz hdr
      · exact value_else (d + 1) rb a c zs l w z k0 k1 k2 k3 k4 (hz.byt z (List.mem_of_mem_drop (by rw [hdr]; simp : z ∈ zs.drop l))) r hl hc hr hz hdr
end Go.Proofs.Ytkhgbbloeeaceaa
