/- Values cleaned, by the reference. -/
import Derived.Test.YtkhgbbloeeaceaaC
import Derived.Test.YtkhgbbloeeaceaaO
namespace Go.Proofs.Ytkhgbbloeeaceaa
open Go Go.RowKit
set_option maxRecDepth 16000
attribute [local go_sem ↓] run_store_float

def CleanC1 (x : V) : Prop := ∀ (w : World) (sl : Value) (D : Nat → Prop), VIn D w x sl →
  Calls Try.prog 20 #[.agg #[.int .i64 x.k, .int .i64 x.i, .float .f64 x.f, .string x.s, sl]] w (RetV w x.clean)

def RetL (w : World) (l : List V) (e : Ending) (w' : World) : Prop :=
  ∃ sl, e = .returned sl ∧ VIn (fun b => w.heap.size ≤ b) w' (V.lst l) sl ∧ Below w.heap.size w w'

theorem infoV : (Try.prog.info? 43).map (fun i => (i.zero, i.size, i.bytes)) = some (some (.agg #[.int .i64 0, .int .i64 0, .float .f64 0, .string ⟨#[]⟩, .slice none 0 0]), 5, 64) := by kernel_rfl

theorem one5 {k i : Int} {f : Nat} {s : ByteArray} {a : Option Addr} {n c : Nat} : ∀ u ∈ [Value.int .i64 k, .int .i64 i, .float .f64 f, .string s, .slice a n c], u.oneCell' = true := by
  intro u hu
  simp only [List.mem_cons, List.not_mem_nil, or_false] at hu
  rcases hu with rfl | rfl | rfl | rfl | rfl <;> rfl

section
variable {ops : Array Oper} {o : Oper} {a : Act} {Q : Exit → Act → World → Prop} {base : Nat} {w0 w1 : World} {v : Value} {ps : List (V × Value)} {t : V} {sa : Option Addr} {sc : Nat}

/-- append of one value, laid just now, to a list that the call makes. -/
theorem wpList_appendV {rest : List Oper} (hgd : o.guard = none) (s x : Operand) (ho : o.op = .call { callee := .builtin .append, args := #[s, x], argTypes := #[27, 27] })
    (hO : OwnV 43 base w0 v ps) (hb : Below w0.heap.size w0 w1) (hbase : base ≤ w0.heap.size) (hv : VIn (fun b => w0.heap.size ≤ b) w1 t (.slice sa t.l.length sc))
    (hs : a.eval s = v) (hx : a.eval x = .slice (some ⟨w1.heap.size, 0, none⟩) 1 1) (hl : (ps.length + 1) * 64 ≤ 140737488351232)
    (h : ∀ g cap w2, OwnV 43 base w2 (.slice (some ⟨g, 0, none⟩) (ps.length + 1) cap) (ps ++ [(t, .slice sa t.l.length sc)]) → Below base w1 w2 → g < w2.heap.size → w1.heap.size < w2.heap.size → wpList Try.prog ops Q rest (a.put o.dst (.slice (some ⟨g, 0, none⟩) (ps.length + 1) cap)) w2) :
    wpList Try.prog ops Q (o :: rest) a (w1.alloc (.cells #[.int .i64 t.k, .int .i64 t.i, .float .f64 t.f, .string t.s, .slice sa t.l.length sc] 43)) := by
  obtain ⟨i0, hi, hz0, hz1, hz2⟩ := info_parts infoV
  refine wpList_append_lies _ hgd s x 27 ho base 43 i0 _ 5 64 Try.underlying27 hi hz0 hz1 hz2 rfl (by omega) v ps.length (flat ps) hs ((hO.below hb).alloc _).1 ⟨w1.heap.size, 0, none⟩ 1 1
    (flat [(t, .slice sa t.l.length sc)]) hx rfl (World.news_of_block (heap_alloc_new w1 _)) one5 (by omega) (by unfold maxLen; omega) (by omega) (by have := hb.size; simp; omega) (w1.heap.size + 1) (by simp) fun g cap w2 h1 h2 h3 h4 => ?_
  refine h g cap w2 (hO.snoc hbase hb hv rfl h1 h2 h3) ?_ h4 (by have := h2.size; simp at this; omega)
  exact (((Below.refl base w1).alloc (by have := hb.size; omega) _).grown h2 (by have := hb.size; simp; omega) (fun k hk => (hO.1.lt k hk).1))

/-- The same at a step of a region that draws its order. -/
theorem step_appendV {K : Act → World → Prop} {E : Prop} (hgd : o.guard = none) (s x : Operand) (ho : o.op = .call { callee := .builtin .append, args := #[s, x], argTypes := #[27, 27] })
    (hO : OwnV 43 base w0 v ps) (hb : Below w0.heap.size w0 w1) (hbase : base ≤ w0.heap.size) (hv : VIn (fun b => w0.heap.size ≤ b) w1 t (.slice sa t.l.length sc))
    (hs : a.eval s = v) (hx : a.eval x = .slice (some ⟨w1.heap.size, 0, none⟩) 1 1) (hl : (ps.length + 1) * 64 ≤ 140737488351232)
    (h : ∀ g cap w2, OwnV 43 base w2 (.slice (some ⟨g, 0, none⟩) (ps.length + 1) cap) (ps ++ [(t, .slice sa t.l.length sc)]) → Below base w1 w2 → g < w2.heap.size → w1.heap.size < w2.heap.size → K (a.put o.dst (.slice (some ⟨g, 0, none⟩) (ps.length + 1) cap)) w2) :
    if Region.wanted o (yielded ops a.tmps) = true then Oper.wp Try.prog o a (w1.alloc (.cells #[.int .i64 t.k, .int .i64 t.i, .float .f64 t.f, .string t.s, .slice sa t.l.length sc] 43)) K Q else E := by
  obtain ⟨i0, hi, hz0, hz1, hz2⟩ := info_parts infoV
  refine step_append_lies _ hgd s x 27 ho base 43 i0 _ 5 64 Try.underlying27 hi hz0 hz1 hz2 rfl (by omega) v ps.length (flat ps) hs ((hO.below hb).alloc _).1 ⟨w1.heap.size, 0, none⟩ 1 1
    (flat [(t, .slice sa t.l.length sc)]) hx rfl (World.news_of_block (heap_alloc_new w1 _)) one5 (by omega) (by unfold maxLen; omega) (by omega) (by have := hb.size; simp; omega) (w1.heap.size + 1) (by simp) fun g cap w2 h1 h2 h3 h4 => ?_
  refine h g cap w2 (hO.snoc hbase hb hv rfl h1 h2 h3) ?_ h4 (by have := h2.size; simp at this; omega)
  exact (((Below.refl base w1).alloc (by have := hb.size; omega) _).grown h2 (by have := hb.size; simp; omega) (fun k hk => (hO.1.lt k hk).1))
end

theorem cleans1_c (l : List V) (ih : ∀ x ∈ l, CleanC1 x) (w : World) (a : Option Addr) (c : Nat) (D : Nat → Prop) (hl : l.length * 64 ≤ 140737488351232)
    (hlc : l.length ≤ c) (hcm : c ≤ 9223372036854775807) (ha : l = [] ∨ ∃ b o, a = some ⟨b, o, none⟩ ∧ EIn D w b o l) :
    Calls Try.prog 53 #[.slice a l.length c] w (RetL w (l.map V.clean)) := by
  obtain ⟨i0, hi, hz0, hz1, hz2⟩ := info_parts infoV
  have HI := Lib.hid hi
  have HZ := Lib.hid (And.intro hz0 (And.intro hz1 hz2))
  have IH := Lib.hid ih
  clear hi hz0 hz1 hz2 ih
  go_enter Try.func53, Try.ntmps53
  go_wp2_with fail
  go_loopw [3, 4] (fun v j wr => ∃ (m : Nat) (ps : List (V × Value)), m ≤ l.length ∧ j = .int .i64 m ∧ ps.map Prod.fst = (l.take m).map V.clean ∧ OwnV 43 w.heap.size wr v ps ∧ Below w.heap.size w wr) (fun _ j _ => l.length - (intOf j).toNat)
  case atStart => exact ⟨0, [], by omega, rfl, rfl, OwnV.nil _ _ _, Below.refl _ _⟩
  case round =>
    obtain ⟨m, ps, hm, rfl, hps, hown, hb⟩ := hrel
    have HPS := Lib.hid hps
    have HO := Lib.hid hown
    have HB := Lib.hid hb
    have hlen : ps.length = m := by have := congrArg List.length hps; simp at this; omega
    have HL := Lib.hid hlen
    clear hps hlen hown
    by_cases hlt : m < l.length
    · obtain ⟨b, o, rfl, he1⟩ := ha.resolve_left (fun e => by simp [e] at hlt)
      have HE := Lib.hid (he1.below hb)
      obtain ⟨hD, sa, sc, c0, c1, c2, c3, c4, hv⟩ := HE.out.get hlt
      have HV := Lib.hid hv
      clear hv hb
      go_wp2_with fail
      refine (IH.out _ (List.getElem_mem _) _ _ _ HV.out).mono ?_
      rintro e w1 ⟨sl1, rfl, hv1, hb1⟩
      obtain ⟨a1, k1, rfl⟩ := hv1.form
      have HV1 := Lib.hid hv1
      have HB1 := Lib.hid hb1
      clear hv1 hb1
      have HLE := Lib.hid (show (ps.length + 1) * 64 ≤ 140737488351232 by have := HL.out; omega)
      go_wp2_with (at_builtin; refine wpList_appendV rfl _ _ rfl HO.out HB1.out HB.out.size HV1.out rfl rfl HLE.out ?_; intro g cap w2 hown2 hb2 hlt2 hlt3)
      have HO2 := Lib.hid hown2
      have HB2 := Lib.hid ((HB.out.trans (HB1.out.mono HB.out.size)).trans hb2)
      have HM := Lib.hid (map_take_succ V.clean l m hlt)
      clear hown2 hb2
      go_roundw
      case rel => exact ⟨m + 1, ps ++ [(l[m].clean, _)], by omega, by go_num, by rw [HM.out, ← HPS.out]; simp, HO2.out, HB2.out⟩
      case measure => simp [intOf]; omega
    · have hm' : m = l.length := by omega
      have hOL := HO.out.list (by have := HL.out; omega)
      rw [HPS.out, hm', List.take_length] at hOL
      have HOL := Lib.hid hOL
      clear hOL hb
      go_wp2_with fail
      go_ret
      exact ⟨_, rfl, HOL.out, HB.out⟩

theorem clean1_c (x : V) : CleanC1 x := by
  induction x using V.induct with
  | h k i f s l ih =>
  intro w sl D hv
  obtain ⟨wk, wi, wf, ws, wl, a, c, rfl, hlc, hcm, _, ha⟩ := hv.parts
  simp only [V.k_mk, V.i_mk, V.f_mk, V.s_mk]
  generalize hr : (V.mk k i f s l).clean = r
  rw [V.clean_mk, V.cleans_map] at hr
  have HR := Lib.hid hr.symm
  have IH := Lib.hid ih
  have HA := Lib.hid ha
  have HW := Lib.hid (And.intro wi (And.intro wf ws))
  clear hr ih ha wk wi wf ws hv
  by_cases k1 : k = 1
  · subst k1
    have HR1 : r = V.int i := by rw [HR.out]; simp
    subst HR1
    go_enter Try.func20, Try.ntmps20
    go_wp2_with fail
    refine (int_c _ _).mono ?_
    rintro e w1 ⟨rfl, hb1⟩
    obtain ⟨⟨v0, v1, v2, v3, v4⟩, hfz, hz, hbb⟩ := var5 hb1
    have HB := Lib.hid hbb
    clear hb1 hbb
    go_wp2_with fail
    exact bodyPost_ret (v := .agg #[.int .i64 1, .int .i64 i, .float .f64 0, .string ⟨#[]⟩, .slice none 0 0]) (by simp [results, Try.results20, go_sem, v0, v1, v2, v3, v4]) rfl
      ⟨_, rfl, VIn.int HW.out.1, below5 HB.out (Nat.le_succ _) _ _ _ _ _⟩
  by_cases k2 : k = 2
  · subst k2
    have HR1 : r = V.flt (canonN f) := by rw [HR.out]; simp
    subst HR1
    go_enter Try.func20, Try.ntmps20
    go_wp2_with fail
    refine (float_c _ _).mono ?_
    rintro e w1 ⟨rfl, hb1⟩
    obtain ⟨⟨v0, v1, v2, v3, v4⟩, hfz, hz, hbb⟩ := var5 hb1
    have HB := Lib.hid hbb
    clear hb1 hbb
    go_wp2_with fail
    exact bodyPost_ret (v := .agg #[.int .i64 2, .int .i64 0, .float .f64 (canonN f), .string ⟨#[]⟩, .slice none 0 0]) (by simp [results, Try.results20, go_sem, v0, v1, v2, v3, v4]) rfl
      ⟨_, rfl, VIn.flt (canonN_lt HW.out.2.1), below5 HB.out (Nat.le_succ _) _ _ _ _ _⟩
  by_cases k3 : k = 3
  · subst k3
    have HR1 : r = V.txt s := by rw [HR.out]; simp
    subst HR1
    go_enter Try.func20, Try.ntmps20
    go_wp2_with fail
    refine (text_c _ _).mono ?_
    rintro e w1 ⟨rfl, hb1⟩
    obtain ⟨⟨v0, v1, v2, v3, v4⟩, hfz, hz, hbb⟩ := var5 hb1
    have HB := Lib.hid hbb
    clear hb1 hbb
    go_wp2_with fail
    exact bodyPost_ret (v := .agg #[.int .i64 3, .int .i64 0, .float .f64 0, .string s, .slice none 0 0]) (by simp [results, Try.results20, go_sem, v0, v1, v2, v3, v4]) rfl
      ⟨_, rfl, VIn.txt HW.out.2.2, below5 HB.out (Nat.le_succ _) _ _ _ _ _⟩
  by_cases k4 : k = 4
  · subst k4
    have HR1 : r = V.lst (l.map V.clean) := by rw [HR.out]; simp
    subst HR1
    go_enter Try.func20, Try.ntmps20
    go_wp2_with fail
    refine (cleans1_c l IH.out _ a c D wl hlc hcm (HA.out.imp id (fun ⟨b, o, e, h⟩ => ⟨b, o, e, h.below (((Below.refl _ _).alloc (Nat.le_refl _) _).alloc (by simp) _)⟩))).mono ?_
    rintro e w1 ⟨sl1, rfl, hv1, hb1⟩
    obtain ⟨a1, k1, rfl⟩ := hv1.form
    have HV1 := Lib.hid hv1
    obtain ⟨⟨v0, v1, v2, v3, v4⟩, hfz, hz, hbb⟩ := var5 hb1
    have HB := Lib.hid hbb
    clear hb1 hbb hv1
    go_wp2_with fail
    refine bodyPost_ret (v := .agg #[.int .i64 4, .int .i64 0, .float .f64 0, .string ⟨#[]⟩, .slice a1 (V.lst (l.map V.clean)).l.length k1]) (by simp [results, Try.results20, go_sem, v0, v1, v2, v3, v4]) rfl
      ⟨_, rfl, HV1.out.keep (fun b hD _ => heap5 _ _ _ _ _ _ (fun e => ?_)) (fun b hD _ => ?_), below5 HB.out (Nat.le_succ _) _ _ _ _ _⟩
    · simp at hD; omega
    · simp at hD; omega
  · have HR1 : r = V.nil := by rw [HR.out]; simp [k1, k2, k3, k4]
    subst HR1
    go_enter Try.func20, Try.ntmps20
    go_wp2_with fail
    exact bodyPost_ret (v := .agg #[.int .i64 0, .int .i64 0, .float .f64 0, .string ⟨#[]⟩, .slice none 0 0]) (by simp [results, Try.results20, go_sem]) rfl
      ⟨_, rfl, VIn.nil, ((Below.refl _ _).alloc (Nat.le_refl _) _).alloc (by simp) _⟩

end Go.Proofs.Ytkhgbbloeeaceaa
