/- wire.Read: the deferred closure, the whole. -/
import Derived.Test.YtkhgbbloeeaceaaRf
import Derived.Defers
import Derived.Recover
namespace Go.Proofs.Ytkhgbbloeeaceaa
open Go Go.RowKit
set_option maxRecDepth 16000
attribute [local go_sem ↓] run_store_float

/-- Nothing panicked: nothing is done. -/
theorem catch_idle (p q r : Addr) (w : World) :
    CallsD Try.prog 85 #[.pointer (some p), .pointer (some q), .pointer (some r)] .returning w fun e u' w' => e = .returned (.tuple #[]) ∧ u' = .returning ∧ w' = w := by
  refine callsD_of_wpS Try.func85 rfl fun c₀ cs hu => ?_
  apply wpS_seq
  apply wpS_region
  simp [wpOpsS, go_sem, recoverD, hu, Try.ntmps85, Exit.thenS]
  refine wpS_of_wp ?_
  rw [show (#[Value.pointer (some p), Value.pointer (some q), Value.pointer (some r)] ++ ((Array.replicate 15 undef).setIfInBounds 3 Value.nilIface).setIfInBounds 0 Value.nilIface : Array Value) = #[.pointer (some p), .pointer (some q), .pointer (some r), .nilIface, undef, undef, .nilIface, undef, undef, undef, undef, undef, undef, undef, undef, undef, undef, undef] from rfl]
  go_wp2_with fail
  cases c₀
  simp_all [bodyPostS, results, Try.results85]

theorem set5_block {w : World} {b : Nat} {z0 z1 z2 z3 z4 : Value} {e : TypeId} (h : w.heap[b]? = some (.cells #[z0, z1, z2, z3, z4] e)) (u0 u1 u2 u3 u4 : Value) :
    (((((w.setCell ⟨b, 0, none⟩ u0).setCell ⟨b, 1, none⟩ u1).setCell ⟨b, 2, none⟩ u2).setCell ⟨b, 3, none⟩ u3).setCell ⟨b, 4, none⟩ u4).heap[b]? = some (.cells #[u0, u1, u2, u3, u4] e) :=
  block_setCell_self (block_setCell_self (block_setCell_self (block_setCell_self (block_setCell_self h))))
theorem block5_keep {w : World} {b k : Nat} {o : Obj} (hne : k ≠ b) (h : w.heap[k]? = some o) (u0 u1 u2 u3 u4 : Value) :
    (((((w.setCell ⟨b, 0, none⟩ u0).setCell ⟨b, 1, none⟩ u1).setCell ⟨b, 2, none⟩ u2).setCell ⟨b, 3, none⟩ u3).setCell ⟨b, 4, none⟩ u4).heap[k]? = some o := by
  rw [heap5 _ _ _ _ _ _ hne]; exact h

/-- The end of the reading is caught: the results are laid. -/
theorem catch_short (pb qb rb : Nat) (k i : Int) (f : Nat) (s : ByteArray) (a : Option Addr) (l c : Nat) (n e0 : Int) (w : World)
    (h1 : w.heap[pb]? = some (.cells #[.int .i64 k, .int .i64 i, .float .f64 f, .string s, .slice a l c] 43)) (h2 : w.heap[qb]? = some (.cells #[.int .i64 n] 3)) (h3 : w.heap[rb]? = some (.cells #[.int .i64 e0] 35)) (hpq : pb ≠ qb) (hpr : pb ≠ rb) (hqr : qb ≠ rb) :
    CallsD Try.prog 85 #[.pointer (some ⟨pb, 0, none⟩), .pointer (some ⟨qb, 0, none⟩), .pointer (some ⟨rb, 0, none⟩)] (.panicking [shortP]) w fun e u' w' => e = .returned (.tuple #[]) ∧ u' = .panicking [{ shortP with recovered := true }] ∧
      w'.heap[pb]? = some (.cells #[.int .i64 0, .int .i64 0, .float .f64 0, .string ⟨#[]⟩, .slice none 0 0] 43) ∧ w'.heap[qb]? = some (.cells #[.int .i64 0] 3) ∧ w'.heap[rb]? = some (.cells #[.int .i64 20] 35) ∧
      (∀ B, B ≤ pb → B ≤ qb → B ≤ rb → B ≤ w.heap.size → Below B w w') := by
  refine callsD_of_wpS Try.func85 rfl fun c₀ cs hu => ?_
  apply wpS_seq
  apply wpS_region
  unfold shortP at hu
  simp [wpOpsS, go_sem, recoverD, hu, Try.ntmps85, Exit.thenS]
  refine wpS_of_wp ?_
  rw [show (#[Value.pointer (some (⟨pb, 0, none⟩ : Addr)), Value.pointer (some (⟨qb, 0, none⟩ : Addr)), Value.pointer (some (⟨rb, 0, none⟩ : Addr))] ++ ((Array.replicate 15 undef).setIfInBounds 3 (Value.iface 121 (.agg #[]))).setIfInBounds 0 (Value.iface 121 (.agg #[])) : Array Value) = #[.pointer (some ⟨pb, 0, none⟩), .pointer (some ⟨qb, 0, none⟩), .pointer (some ⟨rb, 0, none⟩), (Value.iface 121 (.agg #[])), undef, undef, (Value.iface 121 (.agg #[])), undef, undef, undef, undef, undef, undef, undef, undef, undef, undef, undef] from rfl]
  obtain ⟨⟨c0, c1, c2, c3, c4⟩, hf1⟩ := cells_of_block5 h1
  have d0 : w.cell? ⟨qb, 0, none⟩ = some (.int .i64 n) := by simp [World.cell?, h2]
  have d1 : w.cell? ⟨rb, 0, none⟩ = some (.int .i64 e0) := by simp [World.cell?, h3]
  have hf2 : ∀ n, w.frozen? ⟨qb, n, none⟩ = false := fun n => by simp [World.frozen?, h2]
  have hf3 : ∀ n, w.frozen? ⟨rb, n, none⟩ = false := fun n => by simp [World.frozen?, h3]
  have hl1 : pb < w.heap.size := World.block_lt_of_cell? _ _ c0
  have hl2 : qb < w.heap.size := World.block_lt_of_cell? _ _ d0
  have hl3 : rb < w.heap.size := World.block_lt_of_cell? _ _ d1
  have n1 := Ne.symm hpq
  have n2 := Ne.symm hpr
  have n3 := Ne.symm hqr
  have hta : ∀ w : World, (Instr.typeAssert (Value.iface 121 (.agg #[])) 20 121 true).run Try.prog w = .ok (.tuple #[.agg #[], .bool true]) w := fun w => by kernel_rfl
  go_wp2_with fail
  refine ⟨rfl, _, rfl, .tuple #[], by simp [results, Try.results85], rfl, rfl, ?_, ?_, ?_, ?_⟩
  · exact block_alloc_old _ (block_setCell hpr (block_setCell hpq (set5_block h1 _ _ _ _ _)))
  · exact block_alloc_old _ (block_setCell hqr (block_setCell_self (block5_keep n1 h2 _ _ _ _ _)))
  · exact block_alloc_old _ (block_setCell_self (block_setCell n3 (block5_keep n2 h3 _ _ _ _ _)))
  · intro B b1 b2 b3 b4
    refine (((below5 (Below.refl _ _) b1 _ _ _ _ _).setCell b2 _).setCell b3 _).alloc ?_ _
    simpa using b4

set_option maxHeartbeats 1600000 in
theorem Read2_c (a : Option Addr) (c : Nat) (zs : List Int) (w : World) (hl : zs.length ≤ 140737488355328 ∧ zs.length ≤ c ∧ c ≤ 9223372036854775807) (hc : a = none → c = 0) (hz : BIn w a zs) :
    Calls Try.prog 66 #[.slice a zs.length c] w (RetR w (vread (rd true 9 zs))) := by
  have hmf : ∀ (fn : Fn) (first cap : Array Value) (w : World), (Instr.makeFunc fn first cap).run Try.prog w = .ok (.func fn first cap) w := fun _ _ _ _ => rfl
  have HZ := Lib.hid hz
  generalize hr : vread (rd true 9 zs) = r
  have HR := Lib.hid hr.symm
  clear hz hr
  go_enter_defers Try.func66, Try.ntmps66
  go_wp2_with fail
  have hb0 : Below w.heap.size w ((((w.alloc (.cells #[.int .i64 0, .int .i64 0, .float .f64 0, .string ⟨#[]⟩, .slice none 0 0] 43)).alloc (.cells #[.int .i64 0] 3)).alloc (.cells #[.int .i64 0] 35)).alloc (.cells #[.slice a zs.length c, .int .i64 0, .int .i64 8] 125)) :=
    ((((Below.refl _ _).alloc (Nat.le_refl _) _).alloc (by simp) _).alloc (by simp; omega) _).alloc (by simp; omega) _
  have HB0 := Lib.hid hb0
  have HK0 : Hid (rbk ((((w.alloc (.cells #[.int .i64 0, .int .i64 0, .float .f64 0, .string ⟨#[]⟩, .slice none 0 0] 43)).alloc (.cells #[.int .i64 0] 3)).alloc (.cells #[.int .i64 0] 35)).alloc (.cells #[.slice a zs.length c, .int .i64 0, .int .i64 8] 125)) (w.heap.size + 1 + 1 + 1) a zs.length c ((0 : Nat) : Int) ((8 : Nat) : Int)) :=
    Lib.hid (block_alloc_at _ (by simp))
  have HP0 := Lib.hid (block_alloc_old (.cells #[.slice a zs.length c, .int .i64 0, .int .i64 8] 125) (block_alloc_old (.cells #[.int .i64 0] 35) (block_alloc_old (.cells #[.int .i64 0] 3) (block_alloc_at (.cells #[.int .i64 0, .int .i64 0, .float .f64 0, .string ⟨#[]⟩, .slice none 0 0] 43) (rfl : w.heap.size = w.heap.size)))))
  have HQ0 := Lib.hid (block_alloc_old (.cells #[.slice a zs.length c, .int .i64 0, .int .i64 8] 125) (block_alloc_old (.cells #[.int .i64 0] 35) (block_alloc_at (w := w.alloc (.cells #[.int .i64 0, .int .i64 0, .float .f64 0, .string ⟨#[]⟩, .slice none 0 0] 43)) (n := w.heap.size + 1) (.cells #[.int .i64 0] 3) (by simp))))
  have HE0 := Lib.hid (block_alloc_old (.cells #[.slice a zs.length c, .int .i64 0, .int .i64 8] 125) (block_alloc_at (w := (w.alloc (.cells #[.int .i64 0, .int .i64 0, .float .f64 0, .string ⟨#[]⟩, .slice none 0 0] 43)).alloc (.cells #[.int .i64 0] 3)) (n := w.heap.size + 1 + 1) (.cells #[.int .i64 0] 35) (by simp)))
  have HV := Lib.hid (value_c 8 (by omega) (w.heap.size + 1 + 1 + 1) a c zs 0 _ hl (by omega) hc HK0.out (HZ.out.below HB0.out))
  clear hb0
  generalize ((((w.alloc (.cells #[.int .i64 0, .int .i64 0, .float .f64 0, .string ⟨#[]⟩, .slice none 0 0] 43)).alloc (.cells #[.int .i64 0] 3)).alloc (.cells #[.int .i64 0] 35)).alloc (.cells #[.slice a zs.length c, .int .i64 0, .int .i64 8] 125)) = w0 at *
  refine HV.out.mono ?_
  rintro e w1 ⟨hb1, h1⟩
  rw [List.drop_zero] at h1
  have HB1 := Lib.hid hb1
  have HP1 := Lib.hid (hb1.obj (show w.heap.size ≠ w.heap.size + 1 + 1 + 1 by omega) HP0.out)
  have HQ1 := Lib.hid (hb1.obj (show w.heap.size + 1 ≠ w.heap.size + 1 + 1 + 1 by omega) HQ0.out)
  have HE1 := Lib.hid (hb1.obj (show w.heap.size + 1 + 1 ≠ w.heap.size + 1 + 1 + 1 by omega) HE0.out)
  have HBB := Lib.hid (show Below w.heap.size w w1 from ⟨hb1.os.trans HB0.out.os, hb1.tape.trans HB0.out.tape, hb1.output.trans HB0.out.output, Nat.le_trans HB0.out.size hb1.size, fun k hk => by rw [hb1.block k (Nat.lt_of_lt_of_le hk HB0.out.size) (fun e => by have := Option.some.inj e; omega), HB0.out.block k hk]⟩)
  have HZ0 := Lib.hid (show w.heap.size ≤ w0.heap.size from HB0.out.size)
  clear hb1
  cases hx : rd true 9 zs with
  | none =>
    rw [hx] at h1
    simp only at h1
    subst h1
    have HF := Lib.hid (show r = (V.mk 0 0 0 ⟨#[]⟩ [], 0, 20) by rw [HR.out, hx]; rfl)
    clear hx
    refine leaves_cons (f := 85) (args := #[.pointer (some ⟨w.heap.size, 0, none⟩), .pointer (some ⟨w.heap.size + 1, 0, none⟩), .pointer (some ⟨w.heap.size + 1 + 1, 0, none⟩)]) (by simp) (by simp [go_sem]) ?_
    refine (catch_short _ _ _ _ _ _ _ _ _ _ _ _ _ HP1.out HQ1.out HE1.out (by omega) (by omega) (by omega)).mono ?_
    rintro e u' w2 ⟨rfl, rfl, g1, g2, g3, hbel⟩
    obtain ⟨⟨c0, c1, c2, c3, c4⟩, _⟩ := cells_of_block5 g1
    have d0 : w2.cell? ⟨w.heap.size + 1, 0, none⟩ = some (.int .i64 0) := by simp [World.cell?, g2]
    have d1 : w2.cell? ⟨w.heap.size + 1 + 1, 0, none⟩ = some (.int .i64 20) := by simp [World.cell?, g3]
    have HB2 := Lib.hid (HBB.out.trans (hbel w.heap.size (by omega) (by omega) (by omega) HBB.out.size))
    clear g1 g2 g3 hbel
    refine (show ∃ v, (results Try.f66 _).run Try.prog w2 = .ok v w2 ∧ RetR w r (.returned v) w2 from ?_)
    exact ⟨.tuple #[.agg #[.int .i64 0, .int .i64 0, .float .f64 0, .string ⟨#[]⟩, .slice none 0 0], .int .i64 0, .int .i64 20], by simp [results, Try.results66, go_sem, c0, c1, c2, c3, c4, d0, d1], RetR.mk none 0 HF.out rfl VIn.nil HB2.out⟩
  | some p =>
    obtain ⟨v, n⟩ := p
    obtain ⟨k, i, f, s, l⟩ := v
    rw [hx] at h1
    simp only [V.k_mk, V.i_mk, V.f_mk, V.s_mk, V.l_mk] at h1
    obtain ⟨sa, sc, rfl, hv1, hk1⟩ := h1
    have HX := Lib.hid hx
    have HV1 := Lib.hid hv1
    rw [Nat.zero_add] at hk1
    have HK1 := Lib.hid hk1
    obtain ⟨⟨c0, c1, c2, c3, c4⟩, hfp⟩ := cells_of_block5 HP1.out
    have hz1 : w.heap.size < w1.heap.size := World.block_lt_of_cell? _ _ c0
    clear hx hv1 hk1
    go_wp2_with fail
    have HRBL := Lib.hid (show w.heap.size + 1 + 1 + 1 < w0.heap.size from HK0.out.cells.2.2)
    have HV2 := Lib.hid (show VIn (fun b => w0.heap.size ≤ b) (((((w1.setCell ⟨w.heap.size, 0, none⟩ (.int .i64 k)).setCell ⟨w.heap.size, 1, none⟩ (.int .i64 i)).setCell ⟨w.heap.size, 2, none⟩ (.float .f64 f)).setCell ⟨w.heap.size, 3, none⟩ (.string s)).setCell ⟨w.heap.size, 4, none⟩ (.slice sa l.length sc)) (V.mk k i f s l) (.slice sa l.length sc) from HV1.out.keep (fun b hD _ => heap5 _ _ _ _ _ _ (fun e => by subst e; have := HRBL.out; omega)) (fun b hD _ => hD))
    have HP2 := Lib.hid (set5_block HP1.out (.int .i64 k) (.int .i64 i) (.float .f64 f) (.string s) (.slice sa l.length sc))
    have HQ2 := Lib.hid (block5_keep (show w.heap.size + 1 ≠ w.heap.size by omega) HQ1.out (.int .i64 k) (.int .i64 i) (.float .f64 f) (.string s) (.slice sa l.length sc))
    have HE2 := Lib.hid (block5_keep (show w.heap.size + 1 + 1 ≠ w.heap.size by omega) HE1.out (.int .i64 k) (.int .i64 i) (.float .f64 f) (.string s) (.slice sa l.length sc))
    have HK2 := Lib.hid (HK1.out.set5 (show w.heap.size + 1 + 1 + 1 ≠ w.heap.size by omega) (.int .i64 k) (.int .i64 i) (.float .f64 f) (.string s) (.slice sa l.length sc))
    have HB2 := Lib.hid (below5 HBB.out (Nat.le_refl _) (.int .i64 k) (.int .i64 i) (.float .f64 f) (.string s) (.slice sa l.length sc))
    clear HP1 HQ1 HE1 HK1 HBB HV1 HB1 c0 c1 c2 c3 c4 hfp hz1
    generalize (((((w1.setCell ⟨w.heap.size, 0, none⟩ (.int .i64 k)).setCell ⟨w.heap.size, 1, none⟩ (.int .i64 i)).setCell ⟨w.heap.size, 2, none⟩ (.float .f64 f)).setCell ⟨w.heap.size, 3, none⟩ (.string s)).setCell ⟨w.heap.size, 4, none⟩ (.slice sa l.length sc)) = w2 at *
    refine (check2_c (.mk k i f s l) w2 _ _ HV2.out).mono ?_
    rintro e w3 ⟨rfl, hb3⟩
    have HV3 := Lib.hid (HV2.out.below hb3)
    have HP3 := Lib.hid (block_below hb3 HP2.out)
    have HQ3 := Lib.hid (block_below hb3 HQ2.out)
    have HE3 := Lib.hid (block_below hb3 HE2.out)
    have HK3 := Lib.hid (HK2.out.below hb3)
    have HB3 := Lib.hid (HB2.out.trans (hb3.mono HB2.out.size))
    clear HV2 HP2 HQ2 HE2 HK2 HB2 hb3
    by_cases hch : (V.mk k i f s l).check = 0
    · have HF := Lib.hid (show r = (V.mk k i f s l, (n : Int), 0) by rw [HR.out, HX.out]; unfold vread; simp only; rw [if_pos hch])
      rw [hch]
      clear hch
      go_wp2_with fail
      refine (must_ok _).mono ?_
      rintro e w' ⟨rfl, rfl⟩
      obtain ⟨⟨c0, c1, c2, c3, c4⟩, hfp⟩ := cells_of_block5 HP3.out
      obtain ⟨⟨k0, k1, k2⟩, hkf, hkl⟩ := HK3.out.cells
      have d0 : w3.cell? ⟨w.heap.size + 1, 0, none⟩ = some (.int .i64 0) := by simp [World.cell?, HQ3.out]
      have d1 : w3.cell? ⟨w.heap.size + 1 + 1, 0, none⟩ = some (.int .i64 0) := by simp [World.cell?, HE3.out]
      have f0 : w3.frozen? ⟨w.heap.size + 1, 0, none⟩ = false := by simp [World.frozen?, HQ3.out]
      have f1 : w3.frozen? ⟨w.heap.size + 1 + 1, 0, none⟩ = false := by simp [World.frozen?, HE3.out]
      clear hkf
      go_wp2_with fail
      refine wp_region_noPanic ?_
      refine wp_region_held_drew (S := fun w' => at5 w' w.heap.size k i f s (.slice sa l.length sc) ∧ w'.cell? ⟨w.heap.size + 1 + 1 + 1, 1, none⟩ = some (.int .i64 n)) (by kernel_rfl) ⟨⟨c0, c1, c2, c3, c4⟩, k1⟩ (fun hT => ?_)
      refine H_take 0 hT rfl (by kernel_rfl) (by kernel_rfl) (by kernel_rfl) (fun _ _ _ h => h) (by rfl) (by (intro w' hw'; (try dsimp only at hw'); go_simp; try with_reducible rfl)) ?_
      try simp only [Act.put, List.setIfInBounds_toArray, List.set_cons_zero, List.set_cons_succ]
      refine H_take 1 hT rfl (by kernel_rfl) (by kernel_rfl) (by kernel_rfl) (fun _ _ _ h => h) (by rfl) (by (intro w' hw'; (try dsimp only at hw'); go_simp; try with_reducible rfl)) ?_
      try simp only [Act.put, List.setIfInBounds_toArray, List.set_cons_zero, List.set_cons_succ]
      refine H_take 2 hT rfl (by kernel_rfl) (by kernel_rfl) (by kernel_rfl) (fun _ _ _ h => h) (by rfl) (by (intro w' hw'; (try dsimp only at hw'); go_simp; try with_reducible rfl)) ?_
      try simp only [Act.put, List.setIfInBounds_toArray, List.set_cons_zero, List.set_cons_succ]
      refine H_take 3 hT rfl (by kernel_rfl) (by kernel_rfl) (by kernel_rfl) (fun _ _ _ h => h) (by rfl) (by (intro w' hw'; (try dsimp only at hw'); go_simp; try with_reducible rfl)) ?_
      try simp only [Act.put, List.setIfInBounds_toArray, List.set_cons_zero, List.set_cons_succ]
      refine H_take 4 hT rfl (by kernel_rfl) (by kernel_rfl) (by kernel_rfl) (fun _ _ _ h => h) (by rfl) (by (intro w' hw'; (try dsimp only at hw'); go_simp; try with_reducible rfl)) ?_
      try simp only [Act.put, List.setIfInBounds_toArray, List.set_cons_zero, List.set_cons_succ]
      refine H_one 5 rfl (by kernel_rfl) (fun K hK => ?_)
      rw [if_pos (by rfl)]
      go_simp
      have HP4 := Lib.hid (set5_block (w := w3) HP3.out (.int .i64 k) (.int .i64 i) (.float .f64 f) (.string s) (.slice sa l.length sc))
      have HK4 := Lib.hid (rbk.set5 (w := w3) HK3.out (show w.heap.size + 1 + 1 + 1 ≠ w.heap.size by omega) (.int .i64 k) (.int .i64 i) (.float .f64 f) (.string s) (.slice sa l.length sc))
      have HQ4 := Lib.hid (block5_keep (w := w3) (show w.heap.size + 1 ≠ w.heap.size by omega) HQ3.out (.int .i64 k) (.int .i64 i) (.float .f64 f) (.string s) (.slice sa l.length sc))
      have HE4 := Lib.hid (block5_keep (w := w3) (show w.heap.size + 1 + 1 ≠ w.heap.size by omega) HE3.out (.int .i64 k) (.int .i64 i) (.float .f64 f) (.string s) (.slice sa l.length sc))
      have HB4 := Lib.hid (below5 HB3.out (Nat.le_refl _) (.int .i64 k) (.int .i64 i) (.float .f64 f) (.string s) (.slice sa l.length sc))
      have HV4 := Lib.hid (show VIn (fun b => w0.heap.size ≤ b) (((((w3.setCell ⟨w.heap.size, 0, none⟩ (.int .i64 k)).setCell ⟨w.heap.size, 1, none⟩ (.int .i64 i)).setCell ⟨w.heap.size, 2, none⟩ (.float .f64 f)).setCell ⟨w.heap.size, 3, none⟩ (.string s)).setCell ⟨w.heap.size, 4, none⟩ (.slice sa l.length sc)) (V.mk k i f s l) (.slice sa l.length sc) from HV3.out.keep (fun b hD _ => heap5 (w1 := w3) _ _ _ _ _ _ (fun e => by subst e; have := HRBL.out; omega)) (fun b hD _ => hD))
      generalize (((((w3.setCell ⟨w.heap.size, 0, none⟩ (.int .i64 k)).setCell ⟨w.heap.size, 1, none⟩ (.int .i64 i)).setCell ⟨w.heap.size, 2, none⟩ (.float .f64 f)).setCell ⟨w.heap.size, 3, none⟩ (.string s)).setCell ⟨w.heap.size, 4, none⟩ (.slice sa l.length sc)) = w4 at *
      refine hK _ _ ⟨(cells_of_block5 (w := w4.drew) HP4.out).1, (rbk.cells (w := w4.drew) HK4.out).1.2.1⟩ (fun hT1 => ?_)
      clear hK hT
      try simp only [Act.put, List.setIfInBounds_toArray, List.set_cons_zero, List.set_cons_succ]
      clear c0 c1 c2 c3 c4 hfp k0 k1 k2 hkl d0 d1 f0 f1
      have d0 : w4.cell? ⟨w.heap.size + 1, 0, none⟩ = some (.int .i64 0) := by simp [World.cell?, HQ4.out]
      have d1 : w4.cell? ⟨w.heap.size + 1 + 1, 0, none⟩ = some (.int .i64 0) := by simp [World.cell?, HE4.out]
      have f0 : w4.frozen? ⟨w.heap.size + 1, 0, none⟩ = false := by simp [World.frozen?, HQ4.out]
      have f1 : w4.frozen? ⟨w.heap.size + 1 + 1, 0, none⟩ = false := by simp [World.frozen?, HE4.out]
      refine H_one 6 rfl (by kernel_rfl) (fun K hK => ?_)
      rw [if_pos (by rfl)]
      go_simp
      have HP5 := Lib.hid (block_setCell (a := ⟨w.heap.size + 1, 0, none⟩) (u := .int .i64 n) (show w.heap.size ≠ w.heap.size + 1 by omega) HP4.out)
      have HK5 := Lib.hid (HK4.out.set_far (show w.heap.size + 1 + 1 + 1 ≠ w.heap.size + 1 by omega) 0 (.int .i64 n))
      refine hK _ _ ⟨(cells_of_block5 HP5.out).1, HK5.out.cells.1.2.1⟩ (fun hT2 => ?_)
      clear hK hT1
      try simp only [Act.put, List.setIfInBounds_toArray, List.set_cons_zero, List.set_cons_succ]
      refine H_one 7 rfl (by kernel_rfl) (fun K hK => ?_)
      rw [if_pos (by rfl)]
      go_simp
      have HP6 := Lib.hid (block_setCell (a := ⟨w.heap.size + 1 + 1, 0, none⟩) (u := .int .i64 0) (show w.heap.size ≠ w.heap.size + 1 + 1 by omega) HP5.out)
      have HK6 := Lib.hid (HK5.out.set_far (show w.heap.size + 1 + 1 + 1 ≠ w.heap.size + 1 + 1 by omega) 0 (.int .i64 0))
      refine hK _ _ ⟨(cells_of_block5 HP6.out).1, HK6.out.cells.1.2.1⟩ (fun hT3 => ?_)
      clear hK hT2 hT3 d0 d1 f0 f1
      try simp only [Act.put, List.setIfInBounds_toArray, List.set_cons_zero, List.set_cons_succ]
      refine wpAnyH_done (by kernel_rfl) ?_ _
      refine NoPanic.normal ?_
      have HQ6 := Lib.hid (block_setCell (a := ⟨w.heap.size + 1 + 1, 0, none⟩) (u := .int .i64 0) (show w.heap.size + 1 ≠ w.heap.size + 1 + 1 by omega) (block_setCell_self (i := 0) (u := .int .i64 n) HQ4.out))
      have HE6 := Lib.hid (block_setCell_self (i := 0) (u := .int .i64 0) (block_setCell (a := ⟨w.heap.size + 1, 0, none⟩) (u := .int .i64 n) (show w.heap.size + 1 + 1 ≠ w.heap.size + 1 by omega) HE4.out))
      have HB6 := Lib.hid (show Below w.heap.size w ((w4.setCell ⟨w.heap.size + 1, 0, none⟩ (.int .i64 n)).setCell ⟨w.heap.size + 1 + 1, 0, none⟩ (.int .i64 0)) from (HB4.out.setCell (show w.heap.size ≤ w.heap.size + 1 by omega) _).setCell (show w.heap.size ≤ w.heap.size + 1 + 1 by omega) _)
      have HV6 := Lib.hid (show VIn (fun b => w0.heap.size ≤ b) ((w4.setCell ⟨w.heap.size + 1, 0, none⟩ (.int .i64 n)).setCell ⟨w.heap.size + 1 + 1, 0, none⟩ (.int .i64 0)) (V.mk k i f s l) (.slice sa l.length sc) from HV4.out.keep (fun b hD _ => (Below.heap_setCell _ _ _ _ (show b ≠ w.heap.size + 1 + 1 by have : w0.heap.size ≤ b := hD; have := HRBL.out; omega)).trans (Below.heap_setCell _ _ _ _ (show b ≠ w.heap.size + 1 by have : w0.heap.size ≤ b := hD; have := HRBL.out; omega))) (fun b hD _ => hD))
      generalize ((w4.setCell ⟨w.heap.size + 1, 0, none⟩ (.int .i64 n)).setCell ⟨w.heap.size + 1 + 1, 0, none⟩ (.int .i64 0)) = w6 at *
      go_wp2_with fail
      refine leaves_cons (f := 85) (args := #[.pointer (some ⟨w.heap.size, 0, none⟩), .pointer (some ⟨w.heap.size + 1, 0, none⟩), .pointer (some ⟨w.heap.size + 1 + 1, 0, none⟩)]) (by simp) (by simp [go_sem]) ?_
      refine (catch_idle _ _ _ _).mono ?_
      rintro e u' w7 ⟨rfl, rfl, rfl⟩
      obtain ⟨⟨c0, c1, c2, c3, c4⟩, _⟩ := cells_of_block5 HP6.out
      have d0 : w6.cell? ⟨w.heap.size + 1, 0, none⟩ = some (.int .i64 n) := by simp [World.cell?, HQ6.out]
      have d1 : w6.cell? ⟨w.heap.size + 1 + 1, 0, none⟩ = some (.int .i64 0) := by simp [World.cell?, HE6.out]
      refine (show ∃ v, (results Try.f66 _).run Try.prog w6.drew = .ok v w6.drew ∧ RetR w r (.returned v) w6.drew from ?_)
      refine ⟨.tuple #[.agg #[.int .i64 k, .int .i64 i, .float .f64 f, .string s, .slice sa l.length sc], .int .i64 n, .int .i64 0], by simp [results, Try.results66, go_sem, c0, c1, c2, c3, c4, d0, d1], RetR.mk sa sc HF.out rfl ?_ HB6.out.drew⟩
      exact (HV6.out.below (Below.refl _ _).drew).keep (fun _ _ _ => rfl) (fun b hD _ => Nat.le_trans HZ0.out hD)
    · have HF := Lib.hid (show r = (V.mk 0 0 0 ⟨#[]⟩ [], 0, 20) by rw [HR.out, HX.out]; unfold vread; simp only; rw [if_neg hch]; rfl)
      have hcb : ((V.mk k i f s l).check == 0) = false := by simpa using hch
      generalize (V.mk k i f s l).check = ch at hcb ⊢
      clear hch
      go_wp2_with fail
      refine (must_no _).mono ?_
      rintro e w' ⟨rfl, rfl⟩
      refine leaves_cons (f := 85) (args := #[.pointer (some ⟨w.heap.size, 0, none⟩), .pointer (some ⟨w.heap.size + 1, 0, none⟩), .pointer (some ⟨w.heap.size + 1 + 1, 0, none⟩)]) (by simp) (by simp [go_sem]) ?_
      refine (catch_short _ _ _ _ _ _ _ _ _ _ _ _ _ HP3.out HQ3.out HE3.out (by omega) (by omega) (by omega)).mono ?_
      rintro e u' w4 ⟨rfl, rfl, g1, g2, g3, hbel⟩
      obtain ⟨⟨c0, c1, c2, c3, c4⟩, _⟩ := cells_of_block5 g1
      have d0 : w4.cell? ⟨w.heap.size + 1, 0, none⟩ = some (.int .i64 0) := by simp [World.cell?, g2]
      have d1 : w4.cell? ⟨w.heap.size + 1 + 1, 0, none⟩ = some (.int .i64 20) := by simp [World.cell?, g3]
      have HB4 := Lib.hid (HB3.out.trans (hbel w.heap.size (by omega) (by omega) (by omega) HB3.out.size))
      clear g1 g2 g3 hbel
      refine (show ∃ v, (results Try.f66 _).run Try.prog w4 = .ok v w4 ∧ RetR w r (.returned v) w4 from ?_)
      exact ⟨.tuple #[.agg #[.int .i64 0, .int .i64 0, .float .f64 0, .string ⟨#[]⟩, .slice none 0 0], .int .i64 0, .int .i64 20], by simp [results, Try.results66, go_sem, c0, c1, c2, c3, c4, d0, d1], RetR.mk none 0 HF.out rfl VIn.nil HB4.out⟩
end Go.Proofs.Ytkhgbbloeeaceaa
