/- Calls read, by the reference. -/
import Derived.Test.YtkhgbbloeeaceaaFh
namespace Go.Proofs.Ytkhgbbloeeaceaa
open Go Go.RowKit
set_option maxRecDepth 16000
attribute [local go_sem ↓] run_store_float

theorem VLnil {D : Nat → Prop} {w : World} : VIn D w (VL []) (.slice none 0 0) := VIn.lsts (by decide) (fun _ => rfl) (by decide) (.inl rfl)
theorem below6 {B : Nat} {w0 w : World} {u0 u1 u2 u3 u4 u5 : Value} (h : Below B w0 w) : Below B w0 ((((((w.setCell ⟨B, 0, none⟩ u0).setCell ⟨B, 1, none⟩ u1).setCell ⟨B, 2, none⟩ u2).setCell ⟨B, 3, none⟩ u3).setCell ⟨B, 4, none⟩ u4).setCell ⟨B, 5, none⟩ u5) :=
  (((((h.setCell (Nat.le_refl B) _).setCell (Nat.le_refl B) _).setCell (Nat.le_refl B) _).setCell (Nat.le_refl B) _).setCell (Nat.le_refl B) _).setCell (Nat.le_refl B) _
theorem VIn.set6 {B B2 : Nat} {w : World} {t : V} {sl : Value} {u0 u1 u2 u3 u4 u5 : Value} (h : VIn (fun b => B2 ≤ b) w t sl) (hb : B < B2) : VIn (fun b => B ≤ b) ((((((w.setCell ⟨B, 0, none⟩ u0).setCell ⟨B, 1, none⟩ u1).setCell ⟨B, 2, none⟩ u2).setCell ⟨B, 3, none⟩ u3).setCell ⟨B, 4, none⟩ u4).setCell ⟨B, 5, none⟩ u5) t sl := by
  refine h.keep (fun b hD _ => ?_) (fun b hD _ => Nat.le_of_lt (Nat.lt_of_lt_of_le hb hD))
  have hne : b ≠ B := Nat.ne_of_gt (Nat.lt_of_lt_of_le hb hD)
  rw [Below.heap_setCell _ _ _ _ hne, Below.heap_setCell _ _ _ _ hne, Below.heap_setCell _ _ _ _ hne, Below.heap_setCell _ _ _ _ hne, Below.heap_setCell _ _ _ _ hne, Below.heap_setCell _ _ _ _ hne]
structure LR (w wr : World) (B ob : Nat) (k s n : Nat) (g m : ByteArray) (oa : Option Addr) (oc : Nat) (ps : List (V × Value)) : Prop where
  own : OwnV 43 (ob + 1) wr (.slice oa ps.length oc) ps
  ok : ok6 wr ob k s n g m (.slice oa ps.length oc)
  rs : ok6 wr B 0 0 0 ⟨#[]⟩ ⟨#[]⟩ (.slice none 0 0)
  bel : Below B w wr

set_option maxHeartbeats 1600000 in
theorem ReadO1_c (a : Option Addr) (c : Nat) (zs : List Int) (w : World) (hl : zs.length ≤ 140737488355328 ∧ zs.length ≤ c ∧ c ≤ 9223372036854775807) (hc : a = none → c = 0) (hz : BIn w a zs) :
    Calls Try.prog 12 #[.slice a zs.length c] w (RetO w (oread zs)) := by
  have HZ := Lib.hid hz
  have HBY := Lib.hid hz.byt
  generalize hr : oread zs = r
  have HR := Lib.hid hr.symm
  have HAL := Lib.hid ((Below.refl w.heap.size w).alloc (Nat.le_refl _) (.cells #[.int .u32 0, .int .u32 0, .int .u16 0, .string ⟨#[]⟩, .string ⟨#[]⟩, .slice none 0 0] 29))
  have HRS0 := Lib.hid (block_alloc_at (w := w) (.cells #[.int .u32 0, .int .u32 0, .int .u16 0, .string ⟨#[]⟩, .string ⟨#[]⟩, .slice none 0 0] 29) rfl)
  have HRL := Lib.hid (show w.heap.size < (w.alloc (.cells #[.int .u32 0, .int .u32 0, .int .u16 0, .string ⟨#[]⟩, .string ⟨#[]⟩, .slice none 0 0] 29)).heap.size by simp)
  clear hz hr
  go_enter Try.func12, Try.ntmps12
  go_wp2_with fail
  generalize w.alloc _ = w0 at *
  refine (readId1_c a c zs w0 hl.2 hc (HZ.out.below HAL.out)).mono ?_
  rintro e w1 ⟨hb1, h1⟩
  by_cases h10 : zs.length < 10
  · rw [if_pos h10] at h1
    subst h1
    have HF := Lib.hid (show r = (⟨0, 0, 0, ⟨#[]⟩, ⟨#[]⟩, []⟩, 0, 20) by rw [HR.out]; exact oread_no (ord_short h10))
    have HB1 := Lib.hid (HAL.out.trans (hb1.mono HAL.out.size))
    have HA2 := Lib.hid (fun o => ((Below.refl w1.heap.size w1).alloc (Nat.le_refl _) o : Below w1.heap.size w1 (w1.alloc o)))
    have HRX := Lib.hid (fun o => (show ok6 (w1.alloc o) w.heap.size 0 0 0 ⟨#[]⟩ ⟨#[]⟩ (.slice none 0 0) from block_below (HA2.out o) (block_below hb1 HRS0.out)))
    clear hb1
    obtain ⟨⟨⟨c0, c1, c2⟩, c3, c4, c5⟩, hfz, hlz⟩ := (HRX.out (.cells #[.int .u32 0, .int .u32 0, .int .u16 0] 26)).cells
    have f0 := hfz 0
    have f1 := hfz 1
    have f2 := hfz 2
    have f3 := hfz 3
    have f4 := hfz 4
    have f5 := hfz 5
    clear hfz
    go_wp2_with fail
    exact bodyPost_ret (v := .tuple #[oval 0 0 0 ⟨#[]⟩ ⟨#[]⟩ (.slice none 0 0), .int .i64 0, .int .i64 20]) (by simp [results, Try.results12, go_sem, c0, c1, c2, c3, c4, c5]) rfl (RetO.mk none 0 HF.out rfl VLnil (by exact below6 (HB1.out.trans ((HA2.out _).mono HB1.out.size))))
  rw [if_neg h10] at h1
  subst h1
  have hi1 := idc_lt HBY.out
  have hi2 := ids_lt HBY.out
  have hi3 := idn_lt HBY.out
  obtain ⟨aa, ca, ya, hya, hla, hca, hbina, hsla⟩ := sub_at a c zs 10 (by omega) hl.2 hc
  generalize hq1 : idc zs = i1 at *
  generalize hq2 : ids zs = i2 at *
  generalize hq3 : idn zs = i3 at *
  have HQI := Lib.hid (And.intro hq1 (And.intro hq2 hq3))
  have HA2 := Lib.hid (((Below.refl w1.heap.size w1).alloc (Nat.le_refl _) (.cells #[.int .u32 i1, .int .u32 i2, .int .u16 i3] 26)).alloc (by simp) (.cells #[.int .u32 i1, .int .u32 i2, .int .u16 i3, .string ⟨#[]⟩, .string ⟨#[]⟩, .slice none 0 0] 29))
  have HO2 := Lib.hid (show ok6 ((w1.alloc (.cells #[.int .u32 i1, .int .u32 i2, .int .u16 i3] 26)).alloc (.cells #[.int .u32 i1, .int .u32 i2, .int .u16 i3, .string ⟨#[]⟩, .string ⟨#[]⟩, .slice none 0 0] 29)) (w1.heap.size + 1) i1 i2 i3 ⟨#[]⟩ ⟨#[]⟩ (.slice none 0 0) from block_alloc_at (w := w1.alloc (.cells #[.int .u32 i1, .int .u32 i2, .int .u16 i3] 26)) (n := w1.heap.size + 1) (.cells #[.int .u32 i1, .int .u32 i2, .int .u16 i3, .string ⟨#[]⟩, .string ⟨#[]⟩, .slice none 0 0] 29) (by simp))
  have HB1 := Lib.hid (HAL.out.trans (hb1.mono HAL.out.size))
  have HB2 := Lib.hid (HB1.out.trans (HA2.out.mono HB1.out.size))
  have HRS2 := Lib.hid (show ok6 ((w1.alloc (.cells #[.int .u32 i1, .int .u32 i2, .int .u16 i3] 26)).alloc (.cells #[.int .u32 i1, .int .u32 i2, .int .u16 i3, .string ⟨#[]⟩, .string ⟨#[]⟩, .slice none 0 0] 29)) w.heap.size 0 0 0 ⟨#[]⟩ ⟨#[]⟩ (.slice none 0 0) from block_below HA2.out (block_below hb1 HRS0.out))
  have HOB := Lib.hid (show w.heap.size < w1.heap.size + 1 from Nat.lt_succ_of_lt (Nat.lt_of_lt_of_le HRL.out hb1.size))
  have hs10 : ∀ w : World, (Instr.slice 22 (.slice a zs.length c) (some (.int .i64 10)) none none).run Try.prog w = .ok (.slice aa ya.length ca) w := hsla
  have HYA := Lib.hid hya
  have HBA := Lib.hid hbina
  clear hya hbina hsla hq1 hq2 hq3 hb1
  go_wp2_with fail
  generalize (w1.alloc _).alloc _ = w2 at *
  generalize w1.heap.size + 1 = ob at *
  have hne1 : ¬ ob = w.heap.size := Nat.ne_of_gt HOB.out
  have hne2 : ¬ w.heap.size = ob := Nat.ne_of_lt HOB.out
  obtain ⟨⟨⟨c0, c1, c2⟩, c3, c4, c5⟩, hfz, hlz⟩ := HRS2.out.cells
  have f0 := hfz 0
  have f1 := hfz 1
  have f2 := hfz 2
  have f3 := hfz 3
  have f4 := hfz 4
  have f5 := hfz 5
  obtain ⟨⟨_, o3, _, _⟩, hfo, hlo⟩ := HO2.out.cells
  have g3 := hfo 3
  clear hfz hfo
  have hT := rtext1_c aa ca ya 32 w2 hla (HBA.out _ (HZ.out.below HB2.out))
  rw [HYA.out] at hT
  by_cases hn1 : (rtext (zs.drop 10) 32).2.2 = 0
  case neg =>
    have HF := Lib.hid (show r = (⟨0, 0, 0, ⟨#[]⟩, ⟨#[]⟩, []⟩, 0, 20) by rw [HR.out]; exact oread_no (ord_name1 h10 hn1))
    rw [rtext_fault hn1, ← HYA.out] at hT
    refine hT.mono ?_
    rintro e w' ⟨rfl, rfl⟩
    clear hT hn1
    go_wp2_with fail
    exact bodyPost_ret (v := .tuple #[oval 0 0 0 ⟨#[]⟩ ⟨#[]⟩ (.slice none 0 0), .int .i64 0, .int .i64 20]) (by simp [results, Try.results12, go_sem, c0, c1, c2, c3, c4, c5]) rfl (RetO.mk none 0 HF.out rfl VLnil (by exact below6 (HB2.out.setCell (Nat.le_of_lt HOB.out) _)))
  obtain ⟨g, u, hg, hgu⟩ := rtext_parts hn1
  rw [List.length_drop] at hgu
  obtain ⟨U, hU⟩ : ∃ U : Nat, U = 2 + u := ⟨_, rfl⟩
  have hUU : 2 + (u : Int) = (U : Int) := by omega
  rw [hUU] at hg
  have HU := Lib.hid hU
  have HUC := Lib.hid hUU.symm
  rw [hg, ← HYA.out] at hT
  have HG := Lib.hid hg
  obtain ⟨ab, cb, yb, hyb, hlb, hcb, hbinb, hslb⟩ := sub_at a c zs (10 + U) (by omega) hl.2 hc
  have hsb : ∀ w : World, (Instr.slice 22 (.slice a zs.length c) (some (.int .i64 (10 + (U : Int)))) none none).run Try.prog w = .ok (.slice ab yb.length cb) w := hslb
  have HYB := Lib.hid hyb
  have HBB := Lib.hid hbinb
  have hUl : U + 10 ≤ zs.length := by omega
  refine hT.mono ?_
  rintro e w' ⟨rfl, rfl⟩
  clear hT hn1 hg hyb hbinb hslb hUU hU
  go_wp2_with fail
  have HO3 := Lib.hid (show ok6 (w2.setCell ⟨ob, 3, none⟩ (.string g)) ob i1 i2 i3 g ⟨#[]⟩ (.slice none 0 0) from block_setCell_self (i := 3) HO2.out)
  have HRS3 := Lib.hid (show ok6 (w2.setCell ⟨ob, 3, none⟩ (.string g)) w.heap.size 0 0 0 ⟨#[]⟩ ⟨#[]⟩ (.slice none 0 0) from block_setCell hne2 HRS2.out)
  have HB3 := Lib.hid (show Below w.heap.size w (w2.setCell ⟨ob, 3, none⟩ (.string g)) from HB2.out.setCell (Nat.le_of_lt HOB.out) _)
  clear c0 c1 c2 c3 c4 c5 f0 f1 f2 f3 f4 f5 o3 g3 hlz hlo
  generalize w2.setCell _ _ = w3 at *
  have hlb1 : 10 + (U : Int) = ((10 + U : Nat) : Int) := by omega
  rw [hlb1]
  generalize hL1 : 10 + U = L1 at *
  obtain ⟨⟨⟨c0, c1, c2⟩, c3, c4, c5⟩, hfz, hlz⟩ := HRS3.out.cells
  have f0 := hfz 0
  have f1 := hfz 1
  have f2 := hfz 2
  have f3 := hfz 3
  have f4 := hfz 4
  have f5 := hfz 5
  obtain ⟨⟨_, _, o4, _⟩, hfo, hlo⟩ := HO3.out.cells
  have g4 := hfo 4
  clear hfz hfo
  have hT := rtext1_c ab cb yb 32 w3 hlb (HBB.out _ (HZ.out.below HB3.out))
  have h12 : 12 + u = L1 := by have := HU.out; omega
  rw [HYB.out] at hT
  by_cases hn2 : (rtext (zs.drop L1) 32).2.2 = 0
  case neg =>
    have HF := Lib.hid (show r = (⟨0, 0, 0, ⟨#[]⟩, ⟨#[]⟩, []⟩, 0, 20) by rw [HR.out]; exact oread_no (ord_name2 (g := g) (u := u) h10 (by rw [HG.out, HUC.out]) (by rw [h12]; exact hn2)))
    rw [rtext_fault hn2, ← HYB.out] at hT
    refine hT.mono ?_
    rintro e w' ⟨rfl, rfl⟩
    clear hT hn2 h12
    go_wp2_with fail
    exact bodyPost_ret (v := .tuple #[oval 0 0 0 ⟨#[]⟩ ⟨#[]⟩ (.slice none 0 0), .int .i64 0, .int .i64 20]) (by simp [results, Try.results12, go_sem, c0, c1, c2, c3, c4, c5]) rfl (RetO.mk none 0 HF.out rfl VLnil (by exact below6 (HB3.out.setCell (Nat.le_of_lt HOB.out) _)))
  obtain ⟨m, v, hm, hmv⟩ := rtext_parts hn2
  rw [List.length_drop] at hmv
  have HARG := Lib.hid (show r = oread zs ∧ ord zs = oargs i1 i2 i3 g m (14 + u + v) (zs.drop (14 + u + v)) from ⟨HR.out, by rw [ord_args (g := g) (m := m) (u := u) (v := v) h10 (by rw [HG.out, HUC.out]) (by rw [h12]; exact hm), HQI.out.1, HQI.out.2.1, HQI.out.2.2]⟩)
  obtain ⟨VV, hV⟩ : ∃ VV : Nat, VV = 2 + v := ⟨_, rfl⟩
  have hVV : 2 + (v : Int) = (VV : Int) := by omega
  rw [hVV] at hm
  have hL2 : 14 + u + v = L1 + VV := by omega
  rw [hL2] at HARG
  have HV := Lib.hid hV
  have hVl : L1 + VV ≤ zs.length := by omega
  rw [hm, ← HYB.out] at hT
  refine hT.mono ?_
  rintro e w' ⟨rfl, rfl⟩
  have HO4 := Lib.hid (show ok6 (w3.setCell ⟨ob, 4, none⟩ (.string m)) ob i1 i2 i3 g m (.slice none 0 0) from block_setCell_self (i := 4) HO3.out)
  have HRS4 := Lib.hid (show ok6 (w3.setCell ⟨ob, 4, none⟩ (.string m)) w.heap.size 0 0 0 ⟨#[]⟩ ⟨#[]⟩ (.slice none 0 0) from block_setCell hne2 HRS3.out)
  have HB4 := Lib.hid (show Below w.heap.size w (w3.setCell ⟨ob, 4, none⟩ (.string m)) from HB3.out.setCell (Nat.le_of_lt HOB.out) _)
  obtain ⟨L2, hl2⟩ : ∃ L2, L2 = L1 + VV := ⟨_, rfl⟩
  rw [← hl2] at HARG hVl
  have HL2 := Lib.hid hl2
  have hVb : L1 + VV ≤ 140737488355328 := by omega
  clear hT hn2 hm hVV hV h12 hL2 hL1 hlb1 hl2
  cases hd : zs.drop L2 with
  | nil =>
    have hdl := congrArg List.length hd
    rw [List.length_drop, List.length_nil] at hdl
    have HF := Lib.hid (show r = (⟨0, 0, 0, ⟨#[]⟩, ⟨#[]⟩, []⟩, 0, 20) by rw [HARG.out.1]; exact oread_no (by rw [HARG.out.2, hd]; rfl))
    have hge : (zs.length : Int) ≤ (L1 : Int) + (VV : Int) := by have := HL2.out; omega
    clear hd hdl
    go_wp2_with fail
    exact bodyPost_ret (v := .tuple #[oval 0 0 0 ⟨#[]⟩ ⟨#[]⟩ (.slice none 0 0), .int .i64 0, .int .i64 20]) (by simp [results, Try.results12, go_sem, c0, c1, c2, c3, c4, c5]) rfl (RetO.mk none 0 HF.out rfl VLnil (by exact below6 (HB3.out.setCell (Nat.le_of_lt HOB.out) _)))
  | cons z rr =>
    have hdl := congrArg List.length hd
    rw [List.length_drop, List.length_cons] at hdl
    have hz01 : 0 ≤ z ∧ z ≤ 255 := HBY.out z (List.mem_of_mem_drop (by rw [hd]; simp : z ∈ zs.drop L2))
    have hzL : zs[L2]'(by omega) = z := by
      have := List.getElem_drop (xs := zs) (i := L2) (j := 0) (h := by rw [List.length_drop]; omega)
      simp only [Nat.add_zero] at this
      rw [← this]
      simp [hd]
    obtain ⟨zN, rfl⟩ : ∃ zN : Nat, z = zN := ⟨z.toNat, by omega⟩
    obtain ⟨b, o, rfl, hcz, hjk⟩ := (HZ.out.below HB4.out) L2 (by omega)
    rw [hzL] at hcz
    clear hjk
    have HDR := Lib.hid (show zs.drop (L2 + 1) = rr by rw [← List.drop_drop, hd]; rfl)
    have hlt2 : (L1 : Int) + (VV : Int) < (zs.length : Int) := by have := HL2.out; omega
    have hti : ((L1 : Int) + (VV : Int)).toNat = L2 := by have := HL2.out; omega
    have hrl : rr.length + L2 + 1 = zs.length := by omega
    by_cases h16 : 16 < zN
    · have HF := Lib.hid (show r = (⟨0, 0, 0, ⟨#[]⟩, ⟨#[]⟩, []⟩, 0, 20) by rw [HARG.out.1]; exact oread_no (by rw [HARG.out.2, hd]; exact oargs_many (by omega)))
      clear hd hdl hzL
      go_wp2_with fail
      exact bodyPost_ret (v := .tuple #[oval 0 0 0 ⟨#[]⟩ ⟨#[]⟩ (.slice none 0 0), .int .i64 0, .int .i64 20]) (by simp [results, Try.results12, go_sem, c0, c1, c2, c3, c4, c5]) rfl (RetO.mk none 0 HF.out rfl VLnil (by exact below6 (HB3.out.setCell (Nat.le_of_lt HOB.out) _)))
    · have HAR := Lib.hid (show r = oread zs ∧ ord zs = oargs i1 i2 i3 g m L2 ((zN : Int) :: rr) from ⟨HARG.out.1, by rw [HARG.out.2, hd]⟩)
      clear hd hdl hzL
      go_wp2_with fail
      generalize w3.setCell _ _ = w4 at *
      clear c0 c1 c2 c3 c4 c5 f0 f1 f2 f3 f4 f5 o4 g4 hlz hlo hcz
      go_loopw [8, 12] (fun av iv wr => ∃ (q : Nat) (ps : List (V × Value)) (oa : Option Addr) (oc : Nat), ps.length ≤ zN ∧ iv = .int .i64 ps.length ∧ av = .int .i64 ((L2 + 1 + q : Nat) : Int) ∧ rdItems vrd ps.length rr = some (ps.map Prod.fst, q) ∧ LR w wr w.heap.size ob i1 i2 i3 g m oa oc ps) (fun _ iv _ => zN - (intOf iv).toNat)
      case atStart => exact ⟨0, [], none, 0, by simp, rfl, by have := HL2.out; congr 1; omega, rfl, OwnV.nil _ _ _, HO4.out, HRS4.out, HB4.out⟩
      case round =>
        obtain ⟨q, ps, oa, oc, hi, rfl, rfl, hrd, hst⟩ := hrel
        have hkr : q ≤ rr.length := rdItems_le _ vrd_le hrd
        have HRI := Lib.hid hrd
        have HS := Lib.hid hst
        have HD2 := Lib.hid (show zs.drop (L2 + 1 + q) = rr.drop q by rw [← List.drop_drop, HDR.out])
        obtain ⟨⟨⟨c0, c1, c2⟩, c3, c4, c5⟩, hfz, hlz⟩ := hst.rs.cells
        have f0 := hfz 0
        have f1 := hfz 1
        have f2 := hfz 2
        have f3 := hfz 3
        have f4 := hfz 4
        have f5 := hfz 5
        obtain ⟨⟨⟨o0, o1, o2⟩, o3, o4, o5⟩, hfo, hlo⟩ := hst.ok.cells
        have g5 := hfo 5
        clear hrd hst hfz hfo
        by_cases hlt : ps.length < zN
        · have hql : L2 + 1 + q ≤ zs.length := by omega
          generalize hlq : L2 + 1 + q = lq at HD2 hql ⊢
          have HLQ := Lib.hid hlq
          obtain ⟨aq, cq, yq, hyq, hlq5, hcq5, hbinq, hslq⟩ := sub_at (some ⟨b, o, none⟩) c zs lq (by omega) hl.2 hc
          have hyq' : yq = rr.drop q := hyq.trans HD2.out
          have hR := Read1_c aq cq yq wr hlq5 hcq5 (hbinq _ (HZ.out.below HS.out.bel))
          have hzr : ob + 1 ≤ wr.heap.size := hlo
          cases hx : vrd (rr.drop q) with
          | none =>
            have HF := Lib.hid (show r = (⟨0, 0, 0, ⟨#[]⟩, ⟨#[]⟩, []⟩, 0, 20) by
              rw [HAR.out.1]
              exact oread_no (by rw [HAR.out.2]; exact oargs_no (by rw [show zN = (ps.length + 1) + (zN - (ps.length + 1)) by omega, rdItems_none _ (by rw [rdItems_snoc, HRI.out]; simp only; rw [hx])])))
            rw [hyq', vread_same, vread_vrd, hx, ← hyq'] at hR
            clear hyq hyq' hx hbinq hlq c0 c1 c2 c3 c4 c5 f0 f1 f2 f3 f4 f5 o0 o1 o2 o3 o4 o5 g5 hlo hlz
            go_wp2_with fail
            refine hR.mono ?_
            rintro e w5 ⟨sa, sc, rfl, hv5, hb5⟩
            simp only [V.nil, V.k_mk, V.i_mk, V.f_mk, V.s_mk, V.l_mk, List.length_nil]
            have HA5 := Lib.hid (hb5.trans ((Below.refl w5.heap.size w5).alloc (Nat.le_refl _) (.cells #[.int .i64 0, .int .i64 0, .float .f64 0, .string ⟨#[]⟩, .slice sa 0 sc] 43) |>.mono hb5.size))
            obtain ⟨⟨⟨c0, c1, c2⟩, c3, c4, c5⟩, hfz, hlz⟩ := ok6.cells (show ok6 (w5.alloc (.cells #[.int .i64 0, .int .i64 0, .float .f64 0, .string ⟨#[]⟩, .slice sa 0 sc] 43)) w.heap.size 0 0 0 ⟨#[]⟩ ⟨#[]⟩ (.slice none 0 0) from block_below HA5.out HS.out.rs)
            have f0 := hfz 0
            have f1 := hfz 1
            have f2 := hfz 2
            have f3 := hfz 3
            have f4 := hfz 4
            have f5 := hfz 5
            clear hfz hv5 hb5 hR
            go_wp2_with fail
            exact bodyPost_ret (v := .tuple #[oval 0 0 0 ⟨#[]⟩ ⟨#[]⟩ (.slice none 0 0), .int .i64 0, .int .i64 20]) (by simp [results, Try.results12, go_sem, c0, c1, c2, c3, c4, c5]) rfl (RetO.mk none 0 HF.out rfl VLnil (by exact below6 (HS.out.bel.trans (HA5.out.mono HS.out.bel.size))))
          | some p =>
            obtain ⟨⟨vk, vi, vf, vs, vl⟩, n⟩ := p
            have HRD2 := Lib.hid (show rdItems vrd (ps.length + 1) rr = some (ps.map Prod.fst ++ [V.mk vk vi vf vs vl], q + n) by
              rw [rdItems_snoc, HRI.out]; simp only; rw [hx])
            have hnb := vrd_le _ _ _ hx
            rw [List.length_drop] at hnb
            have hnb2 : lq + n ≤ 140737488355328 := by omega
            rw [hyq', vread_same, vread_vrd, hx, ← hyq'] at hR
            clear hyq hyq' hx hbinq hlq c0 c1 c2 c3 c4 c5 f0 f1 f2 f3 f4 f5 o0 o1 o2 o3 o4 o5 g5 hlo hlz
            go_wp2_with fail
            refine hR.mono ?_
            rintro e w5 ⟨sa, sc, rfl, hv5, hb5⟩
            simp only [V.k_mk, V.i_mk, V.f_mk, V.s_mk, V.l_mk] at hv5 ⊢
            have HA5 := Lib.hid (hb5.trans ((Below.refl w5.heap.size w5).alloc (Nat.le_refl _) (.cells #[.int .i64 vk, .int .i64 vi, .float .f64 vf, .string vs, .slice sa vl.length sc] 43) |>.mono hb5.size))
            have HV5 := Lib.hid (hv5.below ((Below.refl w5.heap.size w5).alloc (Nat.le_refl _) (.cells #[.int .i64 vk, .int .i64 vi, .float .f64 vf, .string vs, .slice sa vl.length sc] 43)))
            obtain ⟨⟨v0, v1, v2, v3, v4⟩, _⟩ := cells_of_block5 (block_alloc_at (w := w5) (.cells #[.int .i64 vk, .int .i64 vi, .float .f64 vf, .string vs, .slice sa vl.length sc] 43) rfl)
            obtain ⟨⟨_, _, _, o5⟩, hfo, hlo⟩ := ok6.cells (show ok6 (w5.alloc (.cells #[.int .i64 vk, .int .i64 vi, .float .f64 vf, .string vs, .slice sa vl.length sc] 43)) ob i1 i2 i3 g m (.slice oa ps.length oc) from block_below HA5.out HS.out.ok)
            have g5 := hfo 5
            clear hfo hv5 hb5 hR
            go_wp2_with (at_builtin; go_loud (refine wpList_appendV rfl _ _ rfl HS.out.own HA5.out hzr HV5.out rfl (by show Value.slice (some ⟨w5.heap.size + 1, 0, none⟩) 1 1 = _; simp) (by omega) ?_); intro gg cap w7 hown7 hb7 hlt7 hlt7'; have HOK7 := Lib.hid (show ok6 w7 ob i1 i2 i3 g m (.slice oa ps.length oc) from block_belowB hb7 (Nat.lt_succ_self ob) (block_below HA5.out HS.out.ok)); obtain ⟨⟨_, _, _, o5b⟩, hfob, hlob⟩ := HOK7.out.cells; have g5b := hfob 5)
            have HW7 := Lib.hid hown7
            have HRS7 := Lib.hid (show ok6 w7 w.heap.size 0 0 0 ⟨#[]⟩ ⟨#[]⟩ (.slice none 0 0) from block_belowB hb7 (Nat.lt_succ_of_lt HOB.out) (block_below HA5.out HS.out.rs))
            have HBL7 := Lib.hid (show Below w.heap.size w w7 from (HS.out.bel.trans (HA5.out.mono HS.out.bel.size)).trans (hb7.mono (Nat.le_of_lt (Nat.lt_succ_of_lt HOB.out))))
            refine ⟨⟨q + n, ps ++ [(V.mk vk vi vf vs vl, .slice sa vl.length sc)], some ⟨gg, 0, none⟩, cap, by simp; omega, by simp, ?_, by rw [List.length_append]; exact HRD2.out.trans (by simp), ?_⟩, by simp [intOf]; omega⟩
            · have := HLQ.out
              congr 1
              omega
            · exact ⟨by rw [List.length_append]; exact HW7.out.setCell (Nat.lt_succ_self ob) _, by rw [List.length_append]; exact block_setCell_self (i := 5) HOK7.out, block_setCell hne2 HRS7.out, HBL7.out.setCell (Nat.le_of_lt HOB.out) _⟩
        · have hiz : zN = ps.length := by omega
          have HF := Lib.hid (show r = (⟨i1, i2, i3, g, m, ps.map Prod.fst⟩, ((L2 + 1 + q : Nat) : Int), 0) by rw [HAR.out.1]; exact oread_yes (by rw [HAR.out.2]; exact oargs_yes (by omega) (by rw [hiz]; exact HRI.out)))
          have HOL := Lib.hid (HS.out.own.list (by omega)).toVL
          have hq12 : L2 + 1 + q ≤ 140737488355328 := by omega
          go_wp2_with fail
          exact bodyPost_ret (v := .tuple #[oval i1 i2 i3 g m (.slice oa ps.length oc), .int .i64 ((L2 + 1 + q : Nat) : Int), .int .i64 0]) (by simp [results, Try.results12, go_sem, c0, c1, c2, c3, c4, c5]) rfl (RetO.mk oa oc HF.out (by simp) (by exact HOL.out.set6 (Nat.lt_succ_of_lt HOB.out)) (by exact below6 HS.out.bel))
end Go.Proofs.Ytkhgbbloeeaceaa
