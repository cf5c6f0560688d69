/- Calls cleaned: by the reference, by the program. -/
import Derived.Test.YtkhgbbloeeaceaaH
import Derived.Test.YtkhgbbloeeaceaaFi
import Derived.Test.YtkhgbbloeeaceaaLb
namespace Go.Proofs.Ytkhgbbloeeaceaa
open Go Go.RowKit
set_option maxRecDepth 16000
attribute [local go_sem ↓] run_store_float

def RetOC (w : World) (c s n : Nat) (g m : ByteArray) (l : List V) (e : Ending) (w' : World) : Prop := ∃ (sa : Option Addr) (sc : Nat),
  e = .returned (oval c s n g m (.slice sa l.length sc)) ∧ VIn (fun b => w.heap.size ≤ b) w' (VL l) (.slice sa l.length sc) ∧ Below w.heap.size w w'
theorem RetOC.mk {w w' : World} {c s n : Nat} {g m : ByteArray} {l : List V} {len : Nat} (sa : Option Addr) (sc : Nat) (hlen : len = l.length) (hv : VIn (fun b => w.heap.size ≤ b) w' (VL l) (.slice sa len sc)) (hb : Below w.heap.size w w') : RetOC w c s n g m l (.returned (oval c s n g m (.slice sa len sc))) w' := by
  subst hlen
  exact ⟨sa, sc, rfl, hv, hb⟩
theorem below6' {B b : Nat} {w0 w : World} {u0 u1 u2 u3 u4 u5 : Value} (h : Below B w0 w) (hb : B ≤ b) : Below B w0 ((((((w.setCell ⟨b, 0, none⟩ u0).setCell ⟨b, 1, none⟩ u1).setCell ⟨b, 2, none⟩ u2).setCell ⟨b, 3, none⟩ u3).setCell ⟨b, 4, none⟩ u4).setCell ⟨b, 5, none⟩ u5) :=
  (((((h.setCell hb _).setCell hb _).setCell hb _).setCell hb _).setCell hb _).setCell hb _

theorem cleanO1_c (c s n : Nat) (g m : ByteArray) (l : List V) (va : Option Addr) (vc : Nat) (w : World) (D : Nat → Prop) (hv : VIn D w (VL l) (.slice va l.length vc)) :
    Calls Try.prog 21 #[oval c s n g m (.slice va l.length vc)] w (RetOC w c s n g m (l.map V.clean)) := by
  obtain ⟨_, _, e0, hlc, _, hlw, _⟩ := hv.lst
  simp only [Value.slice.injEq] at e0
  obtain ⟨rfl, _, rfl⟩ := e0
  have HV := Lib.hid hv
  have HA := Lib.hid (((Below.refl w.heap.size w).alloc (Nat.le_refl _) (.cells #[.int .u32 c, .int .u32 s, .int .u16 n, .string g, .string m, .slice va l.length vc] 29)).alloc (by simp) (.cells #[.int .u32 0, .int .u32 0, .int .u16 0, .string ⟨#[]⟩, .string ⟨#[]⟩, .slice none 0 0] 29))
  have HO := Lib.hid (show ok6 ((w.alloc (.cells #[.int .u32 c, .int .u32 s, .int .u16 n, .string g, .string m, .slice va l.length vc] 29)).alloc (.cells #[.int .u32 0, .int .u32 0, .int .u16 0, .string ⟨#[]⟩, .string ⟨#[]⟩, .slice none 0 0] 29)) w.heap.size c s n g m (.slice va l.length vc) from block_alloc_old _ (block_alloc_at _ rfl))
  have HR := Lib.hid (show ok6 ((w.alloc (.cells #[.int .u32 c, .int .u32 s, .int .u16 n, .string g, .string m, .slice va l.length vc] 29)).alloc (.cells #[.int .u32 0, .int .u32 0, .int .u16 0, .string ⟨#[]⟩, .string ⟨#[]⟩, .slice none 0 0] 29)) (w.heap.size + 1) 0 0 0 ⟨#[]⟩ ⟨#[]⟩ (.slice none 0 0) from block_alloc_at (w := w.alloc (.cells #[.int .u32 c, .int .u32 s, .int .u16 n, .string g, .string m, .slice va l.length vc] 29)) (n := w.heap.size + 1) _ (by simp))
  have hz : (((w.alloc (.cells #[.int .u32 c, .int .u32 s, .int .u16 n, .string g, .string m, .slice va l.length vc] 29)).alloc (.cells #[.int .u32 0, .int .u32 0, .int .u16 0, .string ⟨#[]⟩, .string ⟨#[]⟩, .slice none 0 0] 29))).heap.size = w.heap.size + 1 + 1 := by simp
  clear hv
  go_enter Try.func21, Try.ntmps21
  go_wp2_with fail
  generalize (w.alloc _).alloc _ = w1 at *
  have hin := (HV.out.below HA.out).lst
  obtain ⟨_, _, e0, _, _, _, hin⟩ := hin
  simp only [Value.slice.injEq] at e0
  obtain ⟨rfl, _, rfl⟩ := e0
  refine (cleans1_c l (fun x _ => clean1_c x) w1 va vc D hlw hlc.1 hlc.2 hin).mono ?_
  rintro e w2 ⟨sl2, rfl, hv2, hb2⟩
  obtain ⟨sa2, sc2, rfl⟩ := hv2.form
  have HV2 := Lib.hid hv2
  have HO2 := Lib.hid (show ok6 w2 w.heap.size c s n g m _ from block_below hb2 HO.out)
  have HR2 := Lib.hid (show ok6 w2 (w.heap.size + 1) 0 0 0 ⟨#[]⟩ ⟨#[]⟩ _ from block_below hb2 HR.out)
  have HB2 := Lib.hid (HA.out.trans (hb2.mono HA.out.size))
  obtain ⟨⟨⟨c0, c1, c2⟩, c3, c4, c5⟩, hfz, hlz⟩ := HO2.out.cells
  have g5 := hfz 5
  obtain ⟨⟨⟨d0, d1, d2⟩, d3, d4, d5⟩, hfz, hlz2⟩ := HR2.out.cells
  have f0 := hfz 0
  have f1 := hfz 1
  have f2 := hfz 2
  have f3 := hfz 3
  have f4 := hfz 4
  have f5 := hfz 5
  have hl2 : (V.lst (l.map V.clean)).l = l.map V.clean := rfl
  rw [hl2] at HV2 ⊢
  simp only [List.length_map] at HV2 ⊢
  have hz2 := Lib.hid hz
  clear hv2 hb2 hfz hin hl2 hz
  go_wp2_with fail
  refine bodyPost_ret (v := oval c s n g m (.slice sa2 l.length sc2)) (by simp [results, Try.results21, go_sem, d0, d1, d2, d3, d4, d5]) rfl (RetOC.mk sa2 sc2 (by simp) ?_ ?_)
  · exact HV2.out.toVL.keep (fun b hD _ => by
      have hne : b ≠ w.heap.size + 1 := by have : w1.heap.size ≤ b := hD; have := hz2.out; omega
      have hne2 : b ≠ w.heap.size := by have : w1.heap.size ≤ b := hD; have := hz2.out; omega
      rw [Below.heap_setCell _ _ _ _ hne, Below.heap_setCell _ _ _ _ hne, Below.heap_setCell _ _ _ _ hne, Below.heap_setCell _ _ _ _ hne, Below.heap_setCell _ _ _ _ hne, Below.heap_setCell _ _ _ _ hne, Below.heap_setCell _ _ _ _ hne2]) (fun b hD _ => by have : w1.heap.size ≤ b := hD; have := hz2.out; show w.heap.size ≤ b; omega)
  · exact below6' (HB2.out.setCell (Nat.le_refl _) _) (by omega)

structure LC (w wr : World) (B ob : Nat) (c s n : Nat) (g m : ByteArray) (oa : Option Addr) (oc : Nat) (ps : List (V × Value)) : Prop where
  own : OwnV 43 (ob + 1) wr (.slice oa ps.length oc) ps
  ok : ok6 wr ob c s n g m (.slice oa ps.length oc)
  rs : ok6 wr (B + 1) 0 0 0 ⟨#[]⟩ ⟨#[]⟩ (.slice none 0 0)
  bel : Below B w wr

set_option maxHeartbeats 4000000 in
theorem cleanO2_c (c s n : Nat) (g m : ByteArray) (l : List V) (va : Option Addr) (vc : Nat) (w : World) (D : Nat → Prop) (hv : VIn D w (VL l) (.slice va l.length vc)) :
    Calls Try.prog 27 #[oval c s n g m (.slice va l.length vc)] w (RetOC w c s n g m (l.map V.clean)) := by
  obtain ⟨_, _, e0, hlc, _, hlw, _⟩ := hv.lst
  simp only [Value.slice.injEq] at e0
  obtain ⟨rfl, _, rfl⟩ := e0
  have HV := Lib.hid hv
  have HA := Lib.hid ((((Below.refl w.heap.size w).alloc (Nat.le_refl _) (.cells #[.int .u32 c, .int .u32 s, .int .u16 n, .string g, .string m, .slice va l.length vc] 29)).alloc (by simp) (.cells #[.int .u32 0, .int .u32 0, .int .u16 0, .string ⟨#[]⟩, .string ⟨#[]⟩, .slice none 0 0] 29)).alloc (by simp; omega) (.cells #[.int .u32 c, .int .u32 s, .int .u16 n, .string g, .string m, .slice none 0 0] 29))
  have HR := Lib.hid (show ok6 (((w.alloc (.cells #[.int .u32 c, .int .u32 s, .int .u16 n, .string g, .string m, .slice va l.length vc] 29)).alloc (.cells #[.int .u32 0, .int .u32 0, .int .u16 0, .string ⟨#[]⟩, .string ⟨#[]⟩, .slice none 0 0] 29)).alloc (.cells #[.int .u32 c, .int .u32 s, .int .u16 n, .string g, .string m, .slice none 0 0] 29)) (w.heap.size + 1) 0 0 0 ⟨#[]⟩ ⟨#[]⟩ (.slice none 0 0) from block_alloc_old _ (block_alloc_at (w := w.alloc (.cells #[.int .u32 c, .int .u32 s, .int .u16 n, .string g, .string m, .slice va l.length vc] 29)) (n := w.heap.size + 1) _ (by simp)))
  have HN := Lib.hid (show ok6 (((w.alloc (.cells #[.int .u32 c, .int .u32 s, .int .u16 n, .string g, .string m, .slice va l.length vc] 29)).alloc (.cells #[.int .u32 0, .int .u32 0, .int .u16 0, .string ⟨#[]⟩, .string ⟨#[]⟩, .slice none 0 0] 29)).alloc (.cells #[.int .u32 c, .int .u32 s, .int .u16 n, .string g, .string m, .slice none 0 0] 29)) (w.heap.size + 1 + 1) c s n g m (.slice none 0 0) from block_alloc_at (w := (w.alloc (.cells #[.int .u32 c, .int .u32 s, .int .u16 n, .string g, .string m, .slice va l.length vc] 29)).alloc (.cells #[.int .u32 0, .int .u32 0, .int .u16 0, .string ⟨#[]⟩, .string ⟨#[]⟩, .slice none 0 0] 29)) (n := w.heap.size + 1 + 1) _ (by simp))
  clear hv
  go_enter Try.func27, Try.ntmps27
  go_wp2_with fail
  generalize ((w.alloc _).alloc _).alloc _ = w1 at *
  have hob1 : w.heap.size + 1 < w.heap.size + 1 + 1 := by omega
  generalize hobq : w.heap.size + 1 + 1 = ob at *
  go_loopw [16] (fun iv wr => ∃ (ps : List (V × Value)) (oa : Option Addr) (oc : Nat), ps.length ≤ l.length ∧ iv = .int .i64 ps.length ∧ ps.map Prod.fst = (l.take ps.length).map V.clean ∧ LC w wr w.heap.size ob c s n g m oa oc ps) (fun iv _ => l.length - (intOf iv).toNat)
  case atStart => exact ⟨[], none, 0, by simp, rfl, rfl, OwnV.nil _ _ _, HN.out, HR.out, HA.out⟩
  case round =>
    obtain ⟨ps, oa, oc, hi, rfl, hps, hst⟩ := hrel
    have HPS := Lib.hid hps
    have HS := Lib.hid hst
    obtain ⟨⟨⟨o0, o1, o2⟩, o3, o4, o5⟩, hfo, hlo⟩ := hst.ok.cells
    have g5 := hfo 5
    clear hps hfo
    by_cases hlt : ps.length < l.length
    · obtain ⟨_, _, e1, _, _, _, hin⟩ := (HV.out.below hst.bel).lst
      simp only [Value.slice.injEq] at e1
      obtain ⟨rfl, _, rfl⟩ := e1
      obtain ⟨b, o, rfl, he1⟩ := hin.resolve_left (fun e => by simp [e] at hlt)
      obtain ⟨hD, sa, sc, d0, d1, d2, d3, d4, hvx⟩ := he1.get hlt
      have hx : l[ps.length] = l[ps.length] := rfl
      generalize hx : l[ps.length] = x at d0 d1 d2 d3 d4 hvx
      obtain ⟨xk, xi, xf, xs, xl⟩ := x
      simp only [V.k_mk, V.i_mk, V.f_mk, V.s_mk, V.l_mk] at d0 d1 d2 d3 d4 hvx
      have HX := Lib.hid hx
      have HVX := Lib.hid hvx
      have HAV := Lib.hid ((Below.refl wr.heap.size wr).alloc (Nat.le_refl _) (.cells #[.int .i64 xk, .int .i64 xi, .float .f64 xf, .string xs, .slice sa xl.length sc] 43))
      have hvl : (wr.alloc (.cells #[.int .i64 xk, .int .i64 xi, .float .f64 xf, .string xs, .slice sa xl.length sc] 43)).heap.size = wr.heap.size + 1 := by simp
      clear hvx hx hin he1 hst
      go_wp2_with fail
      have v := at5.new (w := wr) (k := xk) (i := xi) (f := xf) (s := xs) (sl := .slice sa xl.length sc) (t := 43)
      obtain ⟨v0, v1, v2, v3, v4⟩ := v
      replace o5 := keepc HAV.out o5
      replace g5 := keepf HAV.out hlo g5
      have HVX2 := Lib.hid (HVX.out.below HAV.out)
      have HSO := Lib.hid (HS.out.own.below HAV.out)
      have HOK2 := Lib.hid (show ok6 (wr.alloc (.cells #[.int .i64 xk, .int .i64 xi, .float .f64 xf, .string xs, .slice sa xl.length sc] 43)) ob c s n g m (.slice oa ps.length oc) from block_below HAV.out HS.out.ok)
      have HRS2 := Lib.hid (show ok6 (wr.alloc (.cells #[.int .i64 xk, .int .i64 xi, .float .f64 xf, .string xs, .slice sa xl.length sc] 43)) (w.heap.size + 1) 0 0 0 ⟨#[]⟩ ⟨#[]⟩ (.slice none 0 0) from block_below HAV.out HS.out.rs)
      have HBB2 := Lib.hid (HS.out.bel.trans (HAV.out.mono HS.out.bel.size))
      have hzb : ob + 1 ≤ (wr.alloc (.cells #[.int .i64 xk, .int .i64 xi, .float .f64 xf, .string xs, .slice sa xl.length sc] 43)).heap.size := by rw [hvl]; omega
      clear hvl
      generalize wr.alloc _ = w3 at *
      refine wp_region_M (fun w' => w'.cell? ⟨ob, 5, none⟩ = some (.slice oa ps.length oc) ∧ at5 w' wr.heap.size xk xi xf xs (.slice sa xl.length sc)) [5, 6, 7] (by kernel_rfl) ⟨o5, v0, v1, v2, v3, v4⟩ (fun hT => ?_)
      refine M_take 0 hT rfl (by kernel_rfl) (by kernel_rfl) (by kernel_rfl) (by kernel_rfl) (fun _ _ _ h => h) (by rfl) (by (intro w' hw'; (try dsimp only at hw'); go_simp; try with_reducible rfl)) ?_
      try simp only [Act.put, List.setIfInBounds_toArray, List.set_cons_zero, List.set_cons_succ]
      refine M_take 1 hT rfl (by kernel_rfl) (by kernel_rfl) (by kernel_rfl) (by kernel_rfl) (fun _ _ _ h => h) (by rfl) (by (intro w' hw'; (try dsimp only at hw'); go_simp; try with_reducible rfl)) ?_
      try simp only [Act.put, List.setIfInBounds_toArray, List.set_cons_zero, List.set_cons_succ]
      refine M_take 2 hT rfl (by kernel_rfl) (by kernel_rfl) (by kernel_rfl) (by kernel_rfl) (fun _ _ _ h => h) (by rfl) (by (intro w' hw'; (try dsimp only at hw'); go_simp; try with_reducible rfl)) ?_
      try simp only [Act.put, List.setIfInBounds_toArray, List.set_cons_zero, List.set_cons_succ]
      refine M_one 3 rfl (by kernel_rfl) (fun K hK => ?_)
      rw [if_pos (by rfl)]
      go_simp
      refine (clean2_c (V.mk xk xi xf xs xl) w3.drew _ _ (HVX2.out.below (Below.refl _ _).drew)).mono ?_
      rintro e w5 ⟨sl5, rfl, hv5, hb5⟩
      obtain ⟨ck, ci, cf, cs, cl, hcl⟩ := V.parts (V.mk xk xi xf xs xl).clean
      rw [hcl] at hv5 ⊢
      simp only [V.k_mk, V.i_mk, V.f_mk, V.s_mk] at hv5 ⊢
      obtain ⟨sa5, sc5, rfl⟩ := hv5.form
      simp only [V.l_mk] at hv5 ⊢
      have HCL := Lib.hid hcl
      have HB5 := Lib.hid (show Below w3.heap.size w3 w5 from ((Below.refl w3.heap.size w3).drew).trans hb5)
      have HV5 := Lib.hid (show VIn (fun b => w3.heap.size ≤ b) w5 (V.mk ck ci cf cs cl) (.slice sa5 cl.length sc5) from hv5)
      have q5 : w5.cell? ⟨ob, 5, none⟩ = some (.slice oa ps.length oc) := keepc HB5.out o5
      have r5 : w5.frozen? ⟨ob, 5, none⟩ = false := keepf HB5.out (World.block_lt_of_cell? _ _ o5) g5
      have va5 := at5.keep HB5.out ⟨v0, v1, v2, v3, v4⟩
      refine hK _ _ (.inr ⟨q5, va5⟩) ?_
      clear hK hv5 hb5 hT hcl
      have HAL5 := Lib.hid (fun o => ((Below.refl w5.heap.size w5).alloc (Nat.le_refl _) o : Below w5.heap.size w5 (w5.alloc o)))
      try simp only [Act.put, List.setIfInBounds_toArray, List.set_cons_zero, List.set_cons_succ]
      refine M_one 4 rfl (by kernel_rfl) (fun K hK => ?_)
      rw [if_pos (by rfl)]
      go_simp
      refine hK _ _ (.inr ⟨keepc (HAL5.out _) q5, va5.keep (HAL5.out _)⟩) ?_
      clear hK
      try simp only [Act.put, List.setIfInBounds_toArray, List.set_cons_zero, List.set_cons_succ]
      refine M_one 5 rfl (by kernel_rfl) (fun K hK => ?_)
      refine step_appendV rfl _ _ rfl HSO.out HB5.out hzb (t := V.mk ck ci cf cs cl) HV5.out rfl rfl (by omega) ?_
      intro gg cap w8 hown8 hb8 hlt8 hlt8'
      have HO8 := Lib.hid hown8
      have HB8 := Lib.hid hb8
      have HOK8 := Lib.hid (show ok6 w8 ob c s n g m (.slice oa ps.length oc) from block_belowB hb8 (Nat.lt_succ_self ob) (block_below HB5.out HOK2.out))
      have HRS8 := Lib.hid (show ok6 w8 (w.heap.size + 1) 0 0 0 ⟨#[]⟩ ⟨#[]⟩ (.slice none 0 0) from block_belowB hb8 (by omega) (block_below HB5.out HRS2.out))
      have HBB8 := Lib.hid (show Below w.heap.size w w8 from (HBB2.out.trans (HB5.out.mono HBB2.out.size)).trans (hb8.mono (by omega)))
      obtain ⟨⟨_, _, _, p5⟩, hfp, _⟩ := HOK8.out.cells
      have hf5b := hfp 5
      refine hK _ _ (.inl (by decide)) ?_
      clear hK hown8 hb8 hfp q5 r5 va5 o5 g5 v0 v1 v2 v3 v4
      try simp only [Act.put, List.setIfInBounds_toArray, List.set_cons_zero, List.set_cons_succ]
      refine M_pure 6 rfl (by decide) (by kernel_rfl) (by kernel_rfl) (by kernel_rfl) (fun _ _ _ h => h) (by rfl) (by (intro w'; go_simp; try with_reducible rfl)) ?_
      try simp only [Act.put, List.setIfInBounds_toArray, List.set_cons_zero, List.set_cons_succ]
      refine M_one 7 rfl (by kernel_rfl) (fun K hK => ?_)
      rw [if_pos (by rfl)]
      go_simp
      refine hK _ _ (.inl (by decide)) ?_
      clear hK
      try simp only [Act.put, List.setIfInBounds_toArray, List.set_cons_zero, List.set_cons_succ]
      refine M_done (by kernel_rfl) ?_ _
      go_wp2_with fail
      refine ⟨⟨ps ++ [(V.mk ck ci cf cs cl, .slice sa5 cl.length sc5)], some ⟨gg, 0, none⟩, cap, by simp; omega, by simp, ?_, ?_⟩, by simp [intOf]; omega⟩
      · rw [List.length_append, List.map_append, HPS.out]
        simp only [List.length_cons, List.length_nil, Nat.zero_add, List.map_cons, List.map_nil]
        rw [map_take_succ V.clean l ps.length hlt, HX.out, HCL.out]
      · exact ⟨by rw [List.length_append]; exact HO8.out.setCell (Nat.lt_succ_self ob) _, by rw [List.length_append]; exact block_setCell_self (i := 5) HOK8.out, block_setCell (show w.heap.size + 1 ≠ ob by omega) HRS8.out, HBB8.out.setCell (show w.heap.size ≤ ob by omega) _⟩
    · have hpl : ps.length = l.length := by omega
      obtain ⟨⟨⟨c0, c1, c2⟩, c3, c4, c5⟩, hfz, hlz⟩ := hst.rs.cells
      have f0 := hfz 0
      have f1 := hfz 1
      have f2 := hfz 2
      have f3 := hfz 3
      have f4 := hfz 4
      have f5 := hfz 5
      have HOL := Lib.hid (HS.out.own.list (by omega)).toVL
      have HPL := Lib.hid (show ps.map Prod.fst = l.map V.clean by have := HPS.out; rwa [hpl, List.take_length] at this)
      have HPN := Lib.hid hpl
      clear hfz hst hpl
      go_wp2_with fail
      refine bodyPost_ret (v := oval c s n g m (.slice oa ps.length oc)) (by simp [results, Try.results27, go_sem, c0, c1, c2, c3, c4, c5]) rfl (RetOC.mk (l := l.map V.clean) oa oc (by simp [HPN.out]) ?_ (by exact below6' (b := w.heap.size + 1) HS.out.bel (by omega)))
      have h1 := HOL.out
      rw [HPL.out] at h1
      exact VIn.keep (D := fun b => ob + 1 ≤ b) (fun b hD _ => by
        have hne : b ≠ w.heap.size + 1 := by have : ob + 1 ≤ b := hD; omega
        rw [Below.heap_setCell _ _ _ _ hne, Below.heap_setCell _ _ _ _ hne, Below.heap_setCell _ _ _ _ hne, Below.heap_setCell _ _ _ _ hne, Below.heap_setCell _ _ _ _ hne, Below.heap_setCell _ _ _ _ hne]) (fun b hD _ => by have : ob + 1 ≤ b := hD; show w.heap.size ≤ b; omega) h1
end Go.Proofs.Ytkhgbbloeeaceaa
