/- try: what is thrown is caught. -/
import Derived.Test.YtkhgbbloeeaceaaFc
import Derived.Defers
import Derived.Recover
namespace Go.Proofs.Ytkhgbbloeeaceaa
open Go Go.RowKit
set_option maxRecDepth 16000
attribute [local go_sem ↓] run_store_float

structure RP where
  c : Nat
  s : Nat
  n : Nat
  e : Nat
  t : V
/-- A reply out of bytes: it, and how many bytes. -/
def rrd (zs : List Int) : Option (RP × Nat) :=
  if zs.length < 12 then none else match vrd (zs.drop 12) with
    | none => none
    | some (v, q) => some (⟨idc zs, ids zs, idn zs, beN ((zs.drop 10).take 2), v⟩, 12 + q)
def rread (zs : List Int) : RP × Int × Int := match rrd zs with
  | none => (⟨0, 0, 0, 0, V.nil⟩, 0, 20)
  | some (o, n) => (o, n, 0)
theorem rrd_short {zs : List Int} (h : zs.length < 12) : rrd zs = none := by unfold rrd; rw [if_pos h]
theorem rrd_no {zs : List Int} (h : ¬ zs.length < 12) (hv : vrd (zs.drop 12) = none) : rrd zs = none := by unfold rrd; rw [if_neg h, hv]
theorem rrd_yes {zs : List Int} {v q} (h : ¬ zs.length < 12) (hv : vrd (zs.drop 12) = some (v, q)) : rrd zs = some (⟨idc zs, ids zs, idn zs, beN ((zs.drop 10).take 2), v⟩, 12 + q) := by unfold rrd; rw [if_neg h, hv]
/-- A reply's block. -/
def ok9 (w : World) (ob : Nat) (c s n e k i : Int) (f : Nat) (x : ByteArray) (sl : Value) : Prop := w.heap[ob]? = some (.cells #[.int .u32 c, .int .u32 s, .int .u16 n, .int .i64 e, .int .i64 k, .int .i64 i, .float .f64 f, .string x, sl] 45)
theorem ok9.cells {w ob c s n e k i f x sl} (h : ok9 w ob c s n e k i f x sl) : at9 w ob c s n e k i f x sl ∧ (∀ k, w.frozen? ⟨ob, k, none⟩ = false) ∧ ob < w.heap.size := by
  unfold ok9 at h
  exact ⟨⟨⟨by simp [World.cell?, h], by simp [World.cell?, h], by simp [World.cell?, h]⟩, by simp [World.cell?, h], by simp [World.cell?, h], by simp [World.cell?, h], by simp [World.cell?, h], by simp [World.cell?, h], by simp [World.cell?, h]⟩, fun n => by simp [World.frozen?, h], (Array.getElem?_eq_some_iff.1 h).1⟩
theorem BIn.ne9 {w a zs ob c s n e k i f x va vn vc} (h : BIn w a zs) (hr : ok9 w ob c s n e k i f x (.slice va vn vc)) : zs = [] ∨ ∃ b o, a = some ⟨b, o, none⟩ ∧ b ≠ ob := by
  cases zs with
  | nil => exact .inl rfl
  | cons z zs =>
    obtain ⟨b, o, e, hc, _⟩ := h 0 (by simp)
    refine .inr ⟨b, o, e, fun hb => ?_⟩
    subst hb
    unfold ok9 at hr
    simp only [World.cell?, hr] at hc
    rcases o with _ | _ | _ | _ | _ | _ | _ | _ | _ | o <;> simp at hc
def RetCR (w : World) (ob rb : Nat) (a : Option Addr) (N c : Nat) (r : Option (RP × Nat)) (e : Ending) (w' : World) : Prop := But2 ob rb w w' ∧ match r with
  | none => e = .panicked [shortC]
  | some (o, n) => ∃ (sa : Option Addr) (sc : Nat), e = .returned (.tuple #[]) ∧ ok9 w' ob o.c o.s o.n o.e o.t.k o.t.i o.t.f o.t.s (.slice sa o.t.l.length sc) ∧ VIn (fun b => w.heap.size ≤ b) w' o.t (.slice sa o.t.l.length sc) ∧ ck w' rb a N c n
theorem RetCR.no {w : World} {ob rb : Nat} {a : Option Addr} {N c : Nat} {r w'} (hr : r = none) (hb : But2 ob rb w w') : RetCR w ob rb a N c r (.panicked [shortC]) w' := by
  subst hr; exact ⟨hb, rfl⟩

set_option maxHeartbeats 4000000 in
theorem readCR_c (pb ob rb : Nat) (a : Option Addr) (c : Nat) (zs : List Int) (w : World) (hl : zs.length ≤ 140737488355328 ∧ zs.length ≤ c ∧ c ≤ 9223372036854775807) (hc : a = none → c = 0) (hz : BIn w a zs)
    (hp : w.cell? ⟨pb, 0, none⟩ = some (.pointer (some ⟨rb, 0, none⟩))) (ho : ok9 w ob 0 0 0 0 0 0 0 ⟨#[]⟩ (.slice none 0 0)) (hr : ck w rb a zs.length c (0 : Nat)) (hpo : pb ≠ ob) (hpr : pb ≠ rb) (hor : ob ≠ rb) :
    Calls Try.prog 43 #[.pointer (some ⟨pb, 0, none⟩), .pointer (some ⟨ob, 0, none⟩)] w (RetCR w ob rb a zs.length c (rrd zs)) := by
  have HN1 := Lib.hid (hz.ne9 ho)
  have HN2 := Lib.hid (hz.ne2 hr)
  have HZ := Lib.hid hz
  have HBY := Lib.hid hz.byt
  have HP0 := Lib.hid hp
  have HO0 := Lib.hid ho
  have HR0 := Lib.hid hr
  generalize hres : rrd zs = res
  have HRES := Lib.hid hres.symm
  have hor' : rb ≠ ob := Ne.symm hor
  clear hz ho hr hres
  go_enter Try.func43, Try.ntmps43
  go_wp2_with fail
  by_cases h10 : zs.length < 10
  · have HF := Lib.hid (show res = none by rw [HRES.out]; exact rrd_short (by omega))
    refine (cid_no rb a c zs 0 _ hl (by omega) hc HR0.out HZ.out (by omega)).mono ?_
    rintro e w' ⟨rfl, hb⟩
    exact ⟨rfl, RetCR.no HF.out (But2.of_but hb)⟩
  refine (cid_ok rb a c zs 0 _ hl (by omega) hc HR0.out HZ.out (by omega)).mono ?_
  rintro e w1 ⟨rfl, hk1, hb1⟩
  rw [List.drop_zero]
  have hi1 := idc_lt HBY.out
  have hi2 := ids_lt HBY.out
  have hi3 := idn_lt HBY.out
  generalize hq1 : idc zs = ic at *
  generalize hq2 : ids zs = is_ at *
  generalize hq3 : idn zs = in_ at *
  have HQI := Lib.hid (And.intro hq1 (And.intro hq2 hq3))
  have HK1 := Lib.hid hk1
  have HO1 := Lib.hid (show ok9 w1 ob 0 0 0 0 0 0 0 ⟨#[]⟩ (.slice none 0 0) from hb1.obj hor HO0.out)
  have HB1 := Lib.hid (But2.of_but (ob := ob) hb1)
  have p1 : w1.cell? ⟨pb, 0, none⟩ = some (.pointer (some ⟨rb, 0, none⟩)) := HB1.out.cell hpo hpr HP0.out
  obtain ⟨⟨⟨o0, o1, o2⟩, _⟩, hfo, hlo⟩ := HO1.out.cells
  have f0 := hfo 0
  have f1 := hfo 1
  have f2 := hfo 2
  have hpl := World.block_lt_of_cell? _ _ p1
  clear hk1 hb1 hfo hq1 hq2 hq3 hp
  go_wp2_with fail
  have HO2 := Lib.hid (show ok9 (((w1.setCell ⟨ob, 0, none⟩ (.int .u32 ic)).setCell ⟨ob, 1, none⟩ (.int .u32 is_)).setCell ⟨ob, 2, none⟩ (.int .u16 in_)) ob ic is_ in_ 0 0 0 0 ⟨#[]⟩ (.slice none 0 0) from block_setCell_self (block_setCell_self (block_setCell_self HO1.out)))
  have HK2 := Lib.hid (show ck (((w1.setCell ⟨ob, 0, none⟩ (.int .u32 ic)).setCell ⟨ob, 1, none⟩ (.int .u32 is_)).setCell ⟨ob, 2, none⟩ (.int .u16 in_)) rb a zs.length c ((0 + 10 : Nat) : Int) from block_setCell hor' (block_setCell hor' (block_setCell hor' HK1.out)))
  have HB2 := Lib.hid (show But2 ob rb w (((w1.setCell ⟨ob, 0, none⟩ (.int .u32 ic)).setCell ⟨ob, 1, none⟩ (.int .u32 is_)).setCell ⟨ob, 2, none⟩ (.int .u16 in_)) from ((HB1.out.set _ _).set _ _).set _ _)
  generalize (((w1.setCell ⟨ob, 0, none⟩ (.int .u32 ic)).setCell ⟨ob, 1, none⟩ (.int .u32 is_)).setCell ⟨ob, 2, none⟩ (.int .u16 in_)) = w2 at *
  have HZ2 := Lib.hid (HZ.out.turned HN1.out HN2.out HB2.out)
  clear o0 o1 o2 hlo hpl f0 f1 f2 p1
  rw [Nat.zero_add] at HK2
  by_cases h12 : zs.length < 12
  · have HF := Lib.hid (show res = none by rw [HRES.out]; exact rrd_short h12)
    refine (cnumber_no rb a c zs 10 2 _ (by omega) hl (by omega) hc HK2.out HZ2.out (by omega)).mono ?_
    rintro e w' ⟨rfl, hb⟩
    exact ⟨rfl, RetCR.no HF.out (HB2.out.trans (But2.of_but hb))⟩
  refine (cnumber_ok rb a c zs 10 2 _ (by omega) hl (by omega) hc HK2.out HZ2.out (by omega)).mono ?_
  rintro e w3 ⟨rfl, hk3, hb3⟩
  have hu := beN_top (zs.drop 10) (fun z h => HBY.out z (List.mem_of_mem_drop h)) 2
  generalize hue : beN ((zs.drop 10).take 2) = u at hu ⊢
  have HU := Lib.hid hue
  have hu2 : u < 65536 := hu
  have HK3 := Lib.hid hk3
  have HO3 := Lib.hid (show ok9 w3 ob ic is_ in_ 0 0 0 0 ⟨#[]⟩ (.slice none 0 0) from hb3.obj hor HO2.out)
  have HB3 := Lib.hid (HB2.out.trans (But2.of_but hb3))
  have p3 : w3.cell? ⟨pb, 0, none⟩ = some (.pointer (some ⟨rb, 0, none⟩)) := HB3.out.cell hpo hpr HP0.out
  obtain ⟨⟨_, o3, _⟩, hfo, hlo⟩ := HO3.out.cells
  have f3 := hfo 3
  have hpl := World.block_lt_of_cell? _ _ p3
  have hw64 : wrap64 (u : Int) = u := by unfold wrap64; omega
  clear hk3 hb3 hfo hue hu
  go_wp2_with fail
  have HO4 := Lib.hid (show ok9 (w3.setCell ⟨ob, 3, none⟩ (.int .i64 (u : Int))) ob ic is_ in_ u 0 0 0 ⟨#[]⟩ (.slice none 0 0) from block_setCell_self (i := 3) HO3.out)
  have HK4 := Lib.hid (show ck (w3.setCell ⟨ob, 3, none⟩ (.int .i64 (u : Int))) rb a zs.length c ((10 + 2 : Nat) : Int) from block_setCell hor' HK3.out)
  have HB4 := Lib.hid (show But2 ob rb w (w3.setCell ⟨ob, 3, none⟩ (.int .i64 (u : Int))) from HB3.out.set _ _)
  generalize (w3.setCell ⟨ob, 3, none⟩ (.int .i64 (u : Int))) = w4 at *
  have HZ4 := Lib.hid (HZ.out.turned HN1.out HN2.out HB4.out)
  clear o3 hlo hpl f3 p3
  have how : ob < w.heap.size := HO0.out.cells.2.2
  have hCV := cvalue_c rb a c zs 12 w4 hl (by omega) hc HK4.out HZ4.out
  rw [vread_vrd] at hCV
  cases hx : vrd (zs.drop 12) with
  | none =>
    have HF := Lib.hid (show res = none by rw [HRES.out]; exact rrd_no h12 hx)
    rw [hx] at hCV
    refine hCV.mono ?_
    rintro e w' ⟨hb, h4⟩
    simp only [show ¬ (20 : Int) = 0 by omega, if_false] at h4
    subst h4
    exact ⟨rfl, RetCR.no HF.out (HB4.out.trans (But2.of_but hb))⟩
  | some p =>
    obtain ⟨⟨vk, vi, vf, vs, vl⟩, q⟩ := p
    have HF := Lib.hid (show res = some (⟨ic, is_, in_, u, V.mk vk vi vf vs vl⟩, 12 + q) by rw [HRES.out, rrd_yes h12 hx, HQI.out.1, HQI.out.2.1, HQI.out.2.2, HU.out])
    rw [hx] at hCV
    refine hCV.mono ?_
    rintro e w5 ⟨hb5, h5⟩
    simp only [if_true, V.k_mk, V.i_mk, V.f_mk, V.s_mk, V.l_mk] at h5
    obtain ⟨sa, sc, rfl, hv5, hk5⟩ := h5
    have HK5 := Lib.hid (show ck w5 rb a zs.length c ((12 + q : Nat) : Int) by rw [show ((12 + q : Nat) : Int) = ((12 : Nat) : Int) + (q : Int) by omega]; exact hk5)
    have HO5 := Lib.hid (show ok9 w5 ob ic is_ in_ u 0 0 0 ⟨#[]⟩ (.slice none 0 0) from hb5.obj hor HO4.out)
    have HB5 := Lib.hid (HB4.out.trans (But2.of_but hb5))
    have HV5 := Lib.hid hv5
    have hz4 : w.heap.size ≤ w4.heap.size := HB4.out.size
    obtain ⟨⟨_, _, o4, o5, o6, o7, o8⟩, hfo, hlo⟩ := HO5.out.cells
    have f4 := hfo 4
    have f5 := hfo 5
    have f6 := hfo 6
    have f7 := hfo 7
    have f8 := hfo 8
    clear hb5 hv5 hk5 hfo hx hCV
    go_wp2_with fail
    go_end0
    refine ⟨((((HB5.out.set _ _).set _ _).set _ _).set _ _).set _ _, ?_⟩
    rw [HF.out]
    refine ⟨sa, sc, rfl, block_setCell_self (i := 8) (block_setCell_self (i := 7) (block_setCell_self (i := 6) (block_setCell_self (i := 5) (block_setCell_self (i := 4) HO5.out)))), ?_, block_setCell hor' (block_setCell hor' (block_setCell hor' (block_setCell hor' (block_setCell hor' HK5.out))))⟩
    exact HV5.out.keep (fun b hD _ => by
      have hne : b ≠ ob := by have : w4.heap.size ≤ b := hD; omega
      rw [Below.heap_setCell _ _ _ _ hne, Below.heap_setCell _ _ _ _ hne, Below.heap_setCell _ _ _ _ hne, Below.heap_setCell _ _ _ _ hne, Below.heap_setCell _ _ _ _ hne]) (fun b hD _ => by have : w4.heap.size ≤ b := hD; show w.heap.size ≤ b; omega)
end Go.Proofs.Ytkhgbbloeeaceaa
namespace Go.Proofs.Ytkhgbbloeeaceaa
open Go Go.RowKit
attribute [local go_sem ↓] run_store_float

theorem catchC_idle (p : Addr) (w : World) :
    CallsD Try.prog 63 #[.pointer (some p)] .returning w fun e u' w' => e = .returned (.tuple #[]) ∧ u' = .returning ∧ w' = w := by
  refine callsD_of_wpS Try.func63 rfl fun c₀ cs hu => ?_
  apply wpS_seq
  apply wpS_region
  simp [wpOpsS, go_sem, recoverD, hu, Try.ntmps63, Exit.thenS]
  refine wpS_of_wp ?_
  rw [show (#[Value.pointer (some p)] ++ ((Array.replicate 14 undef).setIfInBounds 3 Value.nilIface).setIfInBounds 0 Value.nilIface : Array Value) = #[.pointer (some p), .nilIface, undef, undef, .nilIface, undef, undef, undef, undef, undef, undef, undef, undef, undef, undef] from rfl]
  go_wp2_with fail
  cases c₀
  simp_all [bodyPostS, results, Try.results63]

theorem catchC_short (eb : Nat) (e0 : Int) (w : World) (h3 : w.heap[eb]? = some (.cells #[.int .i64 e0] 35)) :
    CallsD Try.prog 63 #[.pointer (some ⟨eb, 0, none⟩)] (.panicking [shortC]) w fun e u' w' => e = .returned (.tuple #[]) ∧ u' = .panicking [{ shortC with recovered := true }] ∧
      w'.heap[eb]? = some (.cells #[.int .i64 20] 35) ∧ But eb w w' := by
  refine callsD_of_wpS Try.func63 rfl fun c₀ cs hu => ?_
  apply wpS_seq
  apply wpS_region
  unfold shortC at hu
  simp [wpOpsS, go_sem, recoverD, hu, Try.ntmps63, Exit.thenS]
  refine wpS_of_wp ?_
  rw [show (#[Value.pointer (some (⟨eb, 0, none⟩ : Addr))] ++ ((Array.replicate 14 undef).setIfInBounds 3 (Value.iface 102 (.agg #[]))).setIfInBounds 0 (Value.iface 102 (.agg #[])) : Array Value) = #[.pointer (some ⟨eb, 0, none⟩), (Value.iface 102 (.agg #[])), undef, undef, (Value.iface 102 (.agg #[])), undef, undef, undef, undef, undef, undef, undef, undef, undef, undef] from rfl]
  have d1 : w.cell? ⟨eb, 0, none⟩ = some (.int .i64 e0) := by simp [World.cell?, h3]
  have hf3 : ∀ n, w.frozen? ⟨eb, n, none⟩ = false := fun n => by simp [World.frozen?, h3]
  have hf0 := hf3 0
  have hl3 : eb < w.heap.size := World.block_lt_of_cell? _ _ d1
  have hta : ∀ w : World, (Instr.typeAssert (Value.iface 102 (.agg #[])) 20 102 true).run Try.prog w = .ok (.tuple #[.agg #[], .bool true]) w := fun w => by kernel_rfl
  go_wp2_with fail
  refine ⟨rfl, _, rfl, .tuple #[], by simp [results, Try.results63], rfl, rfl, ?_, ?_⟩
  · exact block_alloc_old _ (block_setCell_self (i := 0) h3)
  · exact ((But.refl eb w).set 0 _).alloc _

theorem tryO_c (p q : Addr) (w : World) (Pok Pno : World → Prop)
    (hcl : Calls Try.prog 33 #[.pointer (some p), .pointer (some q)] (w.alloc (.cells #[.int .i64 0] 35)) fun e w' => w'.heap[w.heap.size]? = some (.cells #[.int .i64 0] 35) ∧ ((e = .returned (.tuple #[]) ∧ Pok w') ∨ (e = .panicked [shortC] ∧ Pno w'))) :
    Calls Try.prog 32 #[.func (.func 33) #[] #[.pointer (some p), .pointer (some q)]] w fun e w' => ∃ w1, But w.heap.size w1 w' ∧ (e = .returned (.int .i64 0) ∧ Pok w1 ∨ e = .returned (.int .i64 20) ∧ Pno w1) := by
  have hmf : ∀ (fn : Fn) (first cap : Array Value) (w : World), (Instr.makeFunc fn first cap).run Try.prog w = .ok (.func fn first cap) w := fun _ _ _ _ => rfl
  have HCL := Lib.hid hcl
  clear hcl
  go_enter_defers Try.func32, Try.ntmps32
  go_wp2_with fail
  refine HCL.out.mono ?_
  rintro e w1 ⟨hE, ⟨rfl, hP⟩ | ⟨rfl, hP⟩⟩
  · have d1 : w1.cell? ⟨w.heap.size, 0, none⟩ = some (.int .i64 0) := by simp [World.cell?, hE]
    have f1 : w1.frozen? ⟨w.heap.size, 0, none⟩ = false := by simp [World.frozen?, hE]
    have hl1 : w.heap.size < w1.heap.size := World.block_lt_of_cell? _ _ d1
    have HE := Lib.hid (block_setCell_self (i := 0) (u := .int .i64 0) hE)
    have HB := Lib.hid ((But.refl w.heap.size w1).set 0 (.int .i64 0))
    have HP := Lib.hid hP
    clear hE hP
    go_wp2_with fail
    generalize w1.setCell _ _ = w2 at *
    refine leaves_cons (f := 63) (args := #[.pointer (some ⟨w.heap.size, 0, none⟩)]) (by simp) (by simp [go_sem]) ?_
    refine (catchC_idle _ _).mono ?_
    rintro e u' w7 ⟨rfl, rfl, rfl⟩
    have d2 : w7.cell? ⟨w.heap.size, 0, none⟩ = some (.int .i64 0) := by have := HE.out; simp [World.cell?, this]
    refine (show ∃ v, (results Try.f32 _).run Try.prog w7 = .ok v w7 ∧ (∃ w1, But w.heap.size w1 w7 ∧ (Ending.returned v = .returned (.int .i64 0) ∧ Pok w1 ∨ Ending.returned v = .returned (.int .i64 20) ∧ Pno w1)) from ?_)
    exact ⟨.int .i64 0, by simp [results, Try.results32, go_sem, d2], w1, HB.out, .inl ⟨rfl, HP.out⟩⟩
  · have HP := Lib.hid hP
    refine leaves_cons (f := 63) (args := #[.pointer (some ⟨w.heap.size, 0, none⟩)]) (by simp) (by simp [go_sem]) ?_
    refine (catchC_short _ _ _ hE).mono ?_
    rintro e u' w2 ⟨rfl, rfl, g1, hb⟩
    have d2 : w2.cell? ⟨w.heap.size, 0, none⟩ = some (.int .i64 20) := by simp [World.cell?, g1]
    refine (show ∃ v, (results Try.f32 _).run Try.prog w2 = .ok v w2 ∧ (∃ w1, But w.heap.size w1 w2 ∧ (Ending.returned v = .returned (.int .i64 0) ∧ Pok w1 ∨ Ending.returned v = .returned (.int .i64 20) ∧ Pno w1)) from ?_)
    exact ⟨.int .i64 20, by simp [results, Try.results32, go_sem, d2], w1, hb, .inr ⟨rfl, HP.out⟩⟩

theorem tryR_c (p q : Addr) (w : World) (Pok Pno : World → Prop)
    (hcl : Calls Try.prog 43 #[.pointer (some p), .pointer (some q)] (w.alloc (.cells #[.int .i64 0] 35)) fun e w' => w'.heap[w.heap.size]? = some (.cells #[.int .i64 0] 35) ∧ ((e = .returned (.tuple #[]) ∧ Pok w') ∨ (e = .panicked [shortC] ∧ Pno w'))) :
    Calls Try.prog 32 #[.func (.func 43) #[] #[.pointer (some p), .pointer (some q)]] w fun e w' => ∃ w1, But w.heap.size w1 w' ∧ (e = .returned (.int .i64 0) ∧ Pok w1 ∨ e = .returned (.int .i64 20) ∧ Pno w1) := by
  have hmf : ∀ (fn : Fn) (first cap : Array Value) (w : World), (Instr.makeFunc fn first cap).run Try.prog w = .ok (.func fn first cap) w := fun _ _ _ _ => rfl
  have HCL := Lib.hid hcl
  clear hcl
  go_enter_defers Try.func32, Try.ntmps32
  go_wp2_with fail
  refine HCL.out.mono ?_
  rintro e w1 ⟨hE, ⟨rfl, hP⟩ | ⟨rfl, hP⟩⟩
  · have d1 : w1.cell? ⟨w.heap.size, 0, none⟩ = some (.int .i64 0) := by simp [World.cell?, hE]
    have f1 : w1.frozen? ⟨w.heap.size, 0, none⟩ = false := by simp [World.frozen?, hE]
    have hl1 : w.heap.size < w1.heap.size := World.block_lt_of_cell? _ _ d1
    have HE := Lib.hid (block_setCell_self (i := 0) (u := .int .i64 0) hE)
    have HB := Lib.hid ((But.refl w.heap.size w1).set 0 (.int .i64 0))
    have HP := Lib.hid hP
    clear hE hP
    go_wp2_with fail
    generalize w1.setCell _ _ = w2 at *
    refine leaves_cons (f := 63) (args := #[.pointer (some ⟨w.heap.size, 0, none⟩)]) (by simp) (by simp [go_sem]) ?_
    refine (catchC_idle _ _).mono ?_
    rintro e u' w7 ⟨rfl, rfl, rfl⟩
    have d2 : w7.cell? ⟨w.heap.size, 0, none⟩ = some (.int .i64 0) := by have := HE.out; simp [World.cell?, this]
    refine (show ∃ v, (results Try.f32 _).run Try.prog w7 = .ok v w7 ∧ (∃ w1, But w.heap.size w1 w7 ∧ (Ending.returned v = .returned (.int .i64 0) ∧ Pok w1 ∨ Ending.returned v = .returned (.int .i64 20) ∧ Pno w1)) from ?_)
    exact ⟨.int .i64 0, by simp [results, Try.results32, go_sem, d2], w1, HB.out, .inl ⟨rfl, HP.out⟩⟩
  · have HP := Lib.hid hP
    refine leaves_cons (f := 63) (args := #[.pointer (some ⟨w.heap.size, 0, none⟩)]) (by simp) (by simp [go_sem]) ?_
    refine (catchC_short _ _ _ hE).mono ?_
    rintro e u' w2 ⟨rfl, rfl, g1, hb⟩
    have d2 : w2.cell? ⟨w.heap.size, 0, none⟩ = some (.int .i64 20) := by simp [World.cell?, g1]
    refine (show ∃ v, (results Try.f32 _).run Try.prog w2 = .ok v w2 ∧ (∃ w1, But w.heap.size w1 w2 ∧ (Ending.returned v = .returned (.int .i64 0) ∧ Pok w1 ∨ Ending.returned v = .returned (.int .i64 20) ∧ Pno w1)) from ?_)
    exact ⟨.int .i64 20, by simp [results, Try.results32, go_sem, d2], w1, hb, .inr ⟨rfl, HP.out⟩⟩
end Go.Proofs.Ytkhgbbloeeaceaa
