/- Values cleaned, by the program. -/
import Derived.Test.YtkhgbbloeeaceaaG
import Derived.Deep.RegionLaw
import Derived.Deep.DrawnRows
namespace Go.Proofs.Ytkhgbbloeeaceaa
open Go Go.RowKit
set_option maxRecDepth 16000
attribute [local go_sem ↓] run_store_float

def CleanC2 (x : V) : Prop := ∀ (w : World) (sl : Value) (D : Nat → Prop), VIn D w x sl →
  Calls Try.prog 60 #[.agg #[.int .i64 x.k, .int .i64 x.i, .float .f64 x.f, .string x.s, sl]] w (RetV w x.clean)

set_option maxHeartbeats 1000000 in
theorem clean2_list (i : Int) (f : Nat) (s : ByteArray) (l : List V) (ih : ∀ x ∈ l, CleanC2 x) (w : World) (a : Option Addr) (c : Nat) (D : Nat → Prop) (hl : l.length * 64 ≤ 140737488351232)
    (hlc : l.length ≤ c) (hcm : c ≤ 9223372036854775807) (ha : l = [] ∨ ∃ b o, a = some ⟨b, o, none⟩ ∧ EIn D w b o l) :
    Calls Try.prog 60 #[.agg #[.int .i64 4, .int .i64 i, .float .f64 f, .string s, .slice a l.length c]] w (RetV w (V.lst (l.map V.clean))) := by
  have IH := Lib.hid ih
  have HA := Lib.hid ha
  clear ih ha
  go_enter Try.func60, Try.ntmps60
  go_wp2_with fail
  go_loopw [30] (fun j wr => ∃ (m : Nat) (ps : List (V × Value)) (oa : Option Addr) (oc : Nat), m ≤ l.length ∧ j = .int .i64 m ∧ ps.map Prod.fst = (l.take m).map V.clean ∧ OwnV 43 (w.heap.size + 3) wr (.slice oa ps.length oc) ps ∧
      wr.heap[w.heap.size + 1]? = some (.cells #[.int .i64 0, .int .i64 0, .float .f64 0, .string ⟨#[]⟩, .slice none 0 0] 43) ∧
      wr.heap[w.heap.size + 1 + 1]? = some (.cells #[.int .i64 4, .int .i64 0, .float .f64 0, .string ⟨#[]⟩, .slice oa ps.length oc] 43) ∧ Below w.heap.size w wr) (fun j _ => l.length - (intOf j).toNat)
  case atStart =>
    exact ⟨0, [], none, 0, by omega, rfl, rfl, OwnV.nil _ _ _, block_alloc_old _ (block_alloc_at _ (by simp)), block_alloc_at _ (by simp), (((Below.refl _ _).alloc (Nat.le_refl _) _).alloc (by simp) _).alloc (by simp; omega) _⟩
  case round =>
    obtain ⟨m, ps, oa, oc, hm, rfl, hps, hown, hr1, hr2, hb⟩ := hrel
    obtain ⟨⟨o0, o1, o2, o3, o4⟩, hfz⟩ := cells_of_block5 hr2
    obtain ⟨⟨r0, r1, r2, r3, r4⟩, hfr⟩ := cells_of_block5 hr1
    have hz : w.heap.size + 1 + 1 < wr.heap.size := World.block_lt_of_cell? _ _ o0
    have HPS := Lib.hid hps
    have HO := Lib.hid hown
    have HB := Lib.hid hb
    have HR1 := Lib.hid hr1
    have HR2 := Lib.hid hr2
    have hlen : ps.length = m := by have := congrArg List.length hps; simp at this; omega
    have HL := Lib.hid hlen
    clear hps hlen hown hr1 hr2
    by_cases hlt : m < l.length
    · obtain ⟨b, o, rfl, he1⟩ := HA.out.resolve_left (fun e => by simp [e] at hlt)
      have HE := Lib.hid (he1.below hb)
      obtain ⟨hD, sa, sc, c0, c1, c2, c3, c4, hv⟩ := HE.out.get hlt
      have HV := Lib.hid hv
      have hbl : b < wr.heap.size := World.block_lt_of_cell? wr _ c0
      clear hv hb he1 o0 o1 o2 o3 r0 r1 r2 r3 r4 hfr
      have hbw : Below wr.heap.size wr (wr.alloc (.cells #[.int .i64 l[m].k, .int .i64 l[m].i, .float .f64 l[m].f, .string l[m].s, .slice sa l[m].l.length sc] 43)) := (Below.refl _ _).alloc (Nat.le_refl _) _
      have HBW := Lib.hid hbw
      have HLE := Lib.hid (show (ps.length + 1) * 64 ≤ 140737488351232 by have := HL.out; omega)
      have hf4 := hfz 4
      clear hbw hfz
      go_wp2_with fail
      go_region_law ((first | (rw [if_pos (by rfl)]; go_simp; go_at_call 60; refine (IH.out _ (List.getElem_mem _) _ _ D (HV.out.below HBW.out.drew)).mono ?_; rintro e w1 ⟨sl1, rfl, hv1, hb1⟩; obtain ⟨a1, k1, rfl⟩ := hv1.form; have o4' := keepc hb1 (keepc HBW.out.drew o4); have hz1 : w.heap.size + 1 + 1 < w1.heap.size := Nat.lt_of_lt_of_le hz (Nat.le_trans HBW.out.drew.size hb1.size); have f4' := keepf hb1 (by simp; omega) (keepf HBW.out.drew hz hf4)) | (refine step_appendV (by rfl) _ _ (by rfl) (HO.out.below HBW.out.drew) hb1 (by simp; omega) hv1 (by rfl) (by rfl) HLE.out ?_; intro g cap w2 hown2 hb2 hlt2 hlt3; have o4'' := keepcB hb2 (by omega) o4'; have f4'' := keepfB hb2 (by omega) f4')))
      all_goals
        have HO2 := Lib.hid hown2
        have HQ := Lib.hid (And.intro hb1 hb2)
        have HM := Lib.hid (map_take_succ V.clean l m hlt)
        clear hown2 hb1 hb2 hv1 o4 o4' o4'' hf4 f4' f4''
        go_wp2_with fail
        go_roundw
        case rel =>
          refine ⟨m + 1, ps ++ [(l[m].clean, .slice a1 l[m].clean.l.length k1)], some ⟨g, 0, none⟩, cap, by omega, by go_num, by rw [HM.out, ← HPS.out]; simp, ?_, ?_, ?_, ?_⟩
          · simpa using HO2.out.setCell (a := ⟨w.heap.size + 1 + 1, 4, none⟩) (by show w.heap.size + 1 + 1 < _; omega) (.slice (some ⟨g, 0, none⟩) (ps.length + 1) cap)
          · exact block_setCell (by simp) (block_belowB HQ.out.2 (by omega) (block_below HQ.out.1 (block_below HBW.out.drew HR1.out)))
          · have := block_setCell_self (i := 4) (u := .slice (some ⟨g, 0, none⟩) (ps.length + 1) cap) (block_belowB HQ.out.2 (by omega) (block_below HQ.out.1 (block_below HBW.out.drew HR2.out)))
            simpa using this
          · exact ((((HB.out.trans (HBW.out.drew.mono HB.out.size)).trans (HQ.out.1.mono (Nat.le_trans HB.out.size HBW.out.drew.size))).trans (HQ.out.2.mono (by omega))).setCell (by show _ ≤ w.heap.size + 1 + 1; omega) _)
        case measure => simp [intOf]; omega
    · have hm' : m = l.length := by omega
      have hOL := HO.out.list (by have := HL.out; omega)
      rw [HPS.out, hm', List.take_length] at hOL
      have HOL := Lib.hid hOL
      clear hOL hb hm'
      go_wp2_with fail
      refine bodyPost_ret (v := .agg #[.int .i64 4, .int .i64 0, .float .f64 0, .string ⟨#[]⟩, .slice oa ps.length oc]) (by simp [results, Try.results60, go_sem, r0, r1, r2, r3, r4]) rfl
        ⟨_, rfl, HOL.out.keep (fun b hD _ => heap5 _ _ _ _ _ _ (fun e => ?_)) (fun b hD _ => ?_), below5 HB.out (by omega) _ _ _ _ _⟩
      · have hD' : w.heap.size + 3 ≤ b := hD
        omega
      · have hD' : w.heap.size + 3 ≤ b := hD
        show w.heap.size ≤ b
        omega

theorem clean2_c (x : V) : CleanC2 x := by
  induction x using V.induct with
  | h k i f s l ih =>
  intro w sl D hv
  obtain ⟨wk, wi, wf, ws, wl, a, c, rfl, hlc, hcm, _, ha⟩ := hv.parts
  simp only [V.k_mk, V.i_mk, V.f_mk, V.s_mk]
  generalize hr : (V.mk k i f s l).clean = r
  rw [V.clean_mk, V.cleans_map] at hr
  have HR := Lib.hid hr.symm
  have IH := Lib.hid ih
  have HA := Lib.hid ha
  have HW := Lib.hid (And.intro wi (And.intro wf ws))
  clear hr ih ha wk wi wf ws hv
  by_cases k1 : k = 1
  · subst k1
    have HR1 : r = V.int i := by rw [HR.out]; simp
    subst HR1
    go_enter Try.func60, Try.ntmps60
    go_wp2_with fail
    exact bodyPost_ret (v := .agg #[.int .i64 1, .int .i64 i, .float .f64 0, .string ⟨#[]⟩, .slice none 0 0]) (by simp [results, Try.results60, go_sem]) rfl
      ⟨_, rfl, VIn.int HW.out.1, ((Below.refl _ _).alloc (Nat.le_refl _) _).alloc (by simp) _⟩
  by_cases k2 : k = 2
  · subst k2
    have HR1 : r = V.flt (canonN f) := by rw [HR.out]; simp
    subst HR1
    go_enter Try.func60, Try.ntmps60
    go_wp2_with (go_at_call 82; refine (canon2_c _ _).mono ?_; rintro e w1 ⟨rfl, rfl⟩)
    exact bodyPost_ret (v := .agg #[.int .i64 2, .int .i64 0, .float .f64 (canonN f), .string ⟨#[]⟩, .slice none 0 0]) (by simp [results, Try.results60, go_sem]) rfl
      ⟨_, rfl, VIn.flt (canonN_lt HW.out.2.1), ((Below.refl _ _).alloc (Nat.le_refl _) _).alloc (by simp) _⟩
  by_cases k3 : k = 3
  · subst k3
    have HR1 : r = V.txt s := by rw [HR.out]; simp
    subst HR1
    go_enter Try.func60, Try.ntmps60
    go_wp2_with fail
    exact bodyPost_ret (v := .agg #[.int .i64 3, .int .i64 0, .float .f64 0, .string s, .slice none 0 0]) (by simp [results, Try.results60, go_sem]) rfl
      ⟨_, rfl, VIn.txt HW.out.2.2, ((Below.refl _ _).alloc (Nat.le_refl _) _).alloc (by simp) _⟩
  by_cases k4 : k = 4
  · subst k4
    have HR1 : r = V.lst (l.map V.clean) := by rw [HR.out]; simp
    subst HR1
    exact clean2_list i f s l IH.out w a c D wl hlc hcm HA.out
  · have HR1 : r = V.nil := by rw [HR.out]; simp [k1, k2, k3, k4]
    subst HR1
    go_enter Try.func60, Try.ntmps60
    go_wp2_with fail
    exact bodyPost_ret (v := .agg #[.int .i64 0, .int .i64 0, .float .f64 0, .string ⟨#[]⟩, .slice none 0 0]) (by simp [results, Try.results60, go_sem]) rfl
      ⟨_, rfl, VIn.nil, ((Below.refl _ _).alloc (Nat.le_refl _) _).alloc (by simp) _⟩

end Go.Proofs.Ytkhgbbloeeaceaa
