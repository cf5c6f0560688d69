/- Calls and replies read, by the program. -/
import Derived.Test.YtkhgbbloeeaceaaFe
namespace Go.Proofs.Ytkhgbbloeeaceaa
open Go Go.RowKit
set_option maxRecDepth 16000
attribute [local go_sem ↓] run_store_float

/-- What comes of reading a call. -/
def RetO (w : World) (r : O × Int × Int) (e : Ending) (w' : World) : Prop := ∃ (sa : Option Addr) (sc : Nat),
  e = .returned (.tuple #[oval r.1.c r.1.s r.1.n r.1.g r.1.m (.slice sa r.1.l.length sc), .int .i64 r.2.1, .int .i64 r.2.2]) ∧ VIn (fun b => w.heap.size ≤ b) w' (VL r.1.l) (.slice sa r.1.l.length sc) ∧ Below w.heap.size w w'
theorem RetO.mk {w w' : World} {r : O × Int × Int} {c s n : Nat} {g m : ByteArray} {l : List V} {N : Int} {e : Int} (sa : Option Addr) (sc : Nat) {len : Nat} (hr : r = (⟨c, s, n, g, m, l⟩, N, e)) (hlen : len = l.length) (hv : VIn (fun b => w.heap.size ≤ b) w' (VL l) (.slice sa len sc)) (hb : Below w.heap.size w w') :
    RetO w r (.returned (.tuple #[oval c s n g m (.slice sa len sc), .int .i64 N, .int .i64 e])) w' := by
  subst hr; subst hlen
  exact ⟨sa, sc, rfl, hv, hb⟩
theorem heap_drew (w : World) : w.drew.heap = w.heap := rfl
theorem ok6.drew {w b c s n g m sl} (h : ok6 w b c s n g m sl) : ok6 w.drew b c s n g m sl := h
theorem oread_no {zs : List Int} (h : ord zs = none) : oread zs = (⟨0, 0, 0, ⟨#[]⟩, ⟨#[]⟩, []⟩, 0, 20) := by unfold oread; rw [h]
theorem oread_yes {zs : List Int} {o n} (h : ord zs = some (o, n)) : oread zs = (o, (n : Int), 0) := by unfold oread; rw [h]

set_option maxHeartbeats 1600000 in
theorem ReadO2_c (a : Option Addr) (c : Nat) (zs : List Int) (w : World) (hl : zs.length ≤ 140737488355328 ∧ zs.length ≤ c ∧ c ≤ 9223372036854775807) (hc : a = none → c = 0) (hz : BIn w a zs) :
    Calls Try.prog 11 #[.slice a zs.length c] w (RetO w (oread zs)) := by
  have hmf : ∀ (fn : Fn) (first cap : Array Value) (w : World), (Instr.makeFunc fn first cap).run Try.prog w = .ok (.func fn first cap) w := fun _ _ _ _ => rfl
  have HZ := Lib.hid hz
  generalize hr : oread zs = r
  have HR := Lib.hid hr.symm
  clear hz hr
  go_enter Try.func11, Try.ntmps11
  go_wp2_with fail
  have hz0 : w.heap.size + 1 + 1 + 1 + 1 = ((((w.alloc (.cells #[.int .u32 0, .int .u32 0, .int .u16 0, .string ⟨#[]⟩, .string ⟨#[]⟩, .slice none 0 0] 29)).alloc (.cells #[.slice a zs.length c, .int .i64 0] 71)).alloc (.cells #[.pointer (some ⟨w.heap.size + 1, 0, none⟩)] 69)).alloc (.cells #[.int .u32 0, .int .u32 0, .int .u16 0, .string ⟨#[]⟩, .string ⟨#[]⟩, .slice none 0 0] 29)).heap.size := by simp
  have HB0 := Lib.hid (show Below w.heap.size w ((((w.alloc (.cells #[.int .u32 0, .int .u32 0, .int .u16 0, .string ⟨#[]⟩, .string ⟨#[]⟩, .slice none 0 0] 29)).alloc (.cells #[.slice a zs.length c, .int .i64 0] 71)).alloc (.cells #[.pointer (some ⟨w.heap.size + 1, 0, none⟩)] 69)).alloc (.cells #[.int .u32 0, .int .u32 0, .int .u16 0, .string ⟨#[]⟩, .string ⟨#[]⟩, .slice none 0 0] 29)) from ((((Below.refl _ _).alloc (Nat.le_refl _) _).alloc (by simp) _).alloc (by simp; omega) _).alloc (by simp; omega) _)
  have HRS0 := Lib.hid (block_alloc_old (.cells #[.int .u32 0, .int .u32 0, .int .u16 0, .string ⟨#[]⟩, .string ⟨#[]⟩, .slice none 0 0] 29) (block_alloc_old (.cells #[.pointer (some ⟨w.heap.size + 1, 0, none⟩)] 69) (block_alloc_old (.cells #[.slice a zs.length c, .int .i64 0] 71) (block_alloc_at (w := w) (n := w.heap.size) (.cells #[.int .u32 0, .int .u32 0, .int .u16 0, .string ⟨#[]⟩, .string ⟨#[]⟩, .slice none 0 0] 29) rfl))))
  have HRK0 := Lib.hid (show ck ((((w.alloc (.cells #[.int .u32 0, .int .u32 0, .int .u16 0, .string ⟨#[]⟩, .string ⟨#[]⟩, .slice none 0 0] 29)).alloc (.cells #[.slice a zs.length c, .int .i64 0] 71)).alloc (.cells #[.pointer (some ⟨w.heap.size + 1, 0, none⟩)] 69)).alloc (.cells #[.int .u32 0, .int .u32 0, .int .u16 0, .string ⟨#[]⟩, .string ⟨#[]⟩, .slice none 0 0] 29)) (w.heap.size + 1) a zs.length c ((0 : Nat) : Int) from block_alloc_old (.cells #[.int .u32 0, .int .u32 0, .int .u16 0, .string ⟨#[]⟩, .string ⟨#[]⟩, .slice none 0 0] 29) (block_alloc_old (.cells #[.pointer (some ⟨w.heap.size + 1, 0, none⟩)] 69) (block_alloc_at (w := w.alloc (.cells #[.int .u32 0, .int .u32 0, .int .u16 0, .string ⟨#[]⟩, .string ⟨#[]⟩, .slice none 0 0] 29)) (n := w.heap.size + 1) (.cells #[.slice a zs.length c, .int .i64 0] 71) (by simp))))
  have HPP0 := Lib.hid (block_alloc_old (.cells #[.int .u32 0, .int .u32 0, .int .u16 0, .string ⟨#[]⟩, .string ⟨#[]⟩, .slice none 0 0] 29) (block_alloc_at (w := (w.alloc (.cells #[.int .u32 0, .int .u32 0, .int .u16 0, .string ⟨#[]⟩, .string ⟨#[]⟩, .slice none 0 0] 29)).alloc (.cells #[.slice a zs.length c, .int .i64 0] 71)) (n := w.heap.size + 1 + 1) (.cells #[.pointer (some ⟨w.heap.size + 1, 0, none⟩)] 69) (by simp)))
  have HOK0 := Lib.hid (show ok6 ((((w.alloc (.cells #[.int .u32 0, .int .u32 0, .int .u16 0, .string ⟨#[]⟩, .string ⟨#[]⟩, .slice none 0 0] 29)).alloc (.cells #[.slice a zs.length c, .int .i64 0] 71)).alloc (.cells #[.pointer (some ⟨w.heap.size + 1, 0, none⟩)] 69)).alloc (.cells #[.int .u32 0, .int .u32 0, .int .u16 0, .string ⟨#[]⟩, .string ⟨#[]⟩, .slice none 0 0] 29)) (w.heap.size + 1 + 1 + 1) 0 0 0 ⟨#[]⟩ ⟨#[]⟩ (.slice none 0 0) from block_alloc_at (w := ((w.alloc (.cells #[.int .u32 0, .int .u32 0, .int .u16 0, .string ⟨#[]⟩, .string ⟨#[]⟩, .slice none 0 0] 29)).alloc (.cells #[.slice a zs.length c, .int .i64 0] 71)).alloc (.cells #[.pointer (some ⟨w.heap.size + 1, 0, none⟩)] 69)) (n := w.heap.size + 1 + 1 + 1) (.cells #[.int .u32 0, .int .u32 0, .int .u16 0, .string ⟨#[]⟩, .string ⟨#[]⟩, .slice none 0 0] 29) (by simp))
  generalize ((((w.alloc (.cells #[.int .u32 0, .int .u32 0, .int .u16 0, .string ⟨#[]⟩, .string ⟨#[]⟩, .slice none 0 0] 29)).alloc (.cells #[.slice a zs.length c, .int .i64 0] 71)).alloc (.cells #[.pointer (some ⟨w.heap.size + 1, 0, none⟩)] 69)).alloc (.cells #[.int .u32 0, .int .u32 0, .int .u16 0, .string ⟨#[]⟩, .string ⟨#[]⟩, .slice none 0 0] 29)) = w0 at *
  have HAE := Lib.hid ((Below.refl w0.heap.size w0).alloc (Nat.le_refl _) (.cells #[.int .i64 0] 35))
  have HEE := Lib.hid (block_alloc_at (w := w0) (.cells #[.int .i64 0] 35) rfl)
  have hz1 : w0.heap.size < (w0.alloc (.cells #[.int .i64 0] 35)).heap.size := by simp
  have hcl := readC_c (w.heap.size + 1 + 1) (w.heap.size + 1 + 1 + 1) (w.heap.size + 1) a c zs (w0.alloc (.cells #[.int .i64 0] 35)) hl hc ((HZ.out.below HB0.out).below HAE.out) (by have := block_below HAE.out HPP0.out; simp [World.cell?, this]) (block_below HAE.out HOK0.out) (HRK0.out.below HAE.out) (by omega) (by omega) (by omega)
  generalize hB : w.heap.size = B at *
  have HBQ := Lib.hid hB
  have HBW := Lib.hid (show B ≤ w0.heap.size by omega)
  clear hB
  cases hx : ord zs with
  | none =>
    have HF := Lib.hid (show r = (⟨0, 0, 0, ⟨#[]⟩, ⟨#[]⟩, []⟩, 0, 20) by rw [HR.out]; exact oread_no hx)
    rw [hx] at hcl
    refine (tryO_c ⟨B + 1 + 1, 0, none⟩ ⟨B + 1 + 1 + 1, 0, none⟩ w0 (fun _ => False) (fun w' => But2 (B + 1 + 1 + 1) (B + 1) (w0.alloc (.cells #[.int .i64 0] 35)) w') (hcl.mono (fun e w' h => ⟨by rw [h.1.block _ hz1 (by omega) (by omega)]; exact HEE.out, .inr ⟨h.2, h.1⟩⟩))).mono ?_
    rintro e w2 ⟨w1, hb12, ⟨_, hf⟩ | ⟨rfl, hb1⟩⟩
    · exact hf.elim
    have HB1 := Lib.hid ((But2.of_below (ob := B + 1 + 1 + 1) (rb := B + 1) HAE.out).trans hb1)
    have hk2 : ∀ k, k < w0.heap.size → k ≠ B + 1 + 1 + 1 → k ≠ B + 1 → w2.heap[k]? = w0.heap[k]? := fun k hk h1 h2 => by
      rw [hb12.block k (Nat.lt_of_lt_of_le hk HB1.out.size) (fun e => by have := Option.some.inj e; omega), HB1.out.block k hk h1 h2]
    have HRS2 := Lib.hid ((hk2 B (by omega) (by omega) (by omega)).trans HRS0.out)
    have HB2 := Lib.hid (show Below B w w2 from ⟨(hb12.os.trans HB1.out.os).trans HB0.out.os, (hb12.tape.trans HB1.out.tape).trans HB0.out.tape, (hb12.output.trans HB1.out.output).trans HB0.out.output, Nat.le_trans HB0.out.size (Nat.le_trans HB1.out.size hb12.size), fun k hk => by rw [hk2 k (by omega) (by omega) (by omega)]; exact HB0.out.block k hk⟩)
    have h0 : at6 w2 B 0 0 0 ⟨#[]⟩ ⟨#[]⟩ (.slice none 0 0) ∧ (∀ k, w2.frozen? ⟨B, k, none⟩ = false) ∧ B < w2.heap.size := ok6.cells (show ok6 w2 B 0 0 0 ⟨#[]⟩ ⟨#[]⟩ (.slice none 0 0) from HRS2.out)
    obtain ⟨⟨⟨c0, c1, c2⟩, c3, c4, c5⟩, hfz, hlz⟩ := h0
    have f0 := hfz 0
    have f1 := hfz 1
    have f2 := hfz 2
    have f3 := hfz 3
    have f4 := hfz 4
    have f5 := hfz 5
    clear hfz
    clear hb12 hb1 hk2 hcl hx
    go_wp2_with fail
    exact bodyPost_ret (v := .tuple #[oval 0 0 0 ⟨#[]⟩ ⟨#[]⟩ (.slice none 0 0), .int .i64 0, .int .i64 20]) (by simp [results, Try.results11, go_sem, c0, c1, c2, c3, c4, c5]) rfl (RetO.mk none 0 HF.out rfl (VIn.lsts (by decide) (fun _ => rfl) (by decide) (.inl rfl)) (by rw [HBQ.out]; exact (((((HB2.out.setCell (Nat.le_refl B) _).setCell (Nat.le_refl B) _).setCell (Nat.le_refl B) _).setCell (Nat.le_refl B) _).setCell (Nat.le_refl B) _).setCell (Nat.le_refl B) _))
  | some p =>
    obtain ⟨⟨oc, os_, on, og, om, ol⟩, n⟩ := p
    have HF := Lib.hid (show r = (⟨oc, os_, on, og, om, ol⟩, (n : Int), 0) by rw [HR.out]; exact oread_yes hx)
    rw [hx] at hcl
    refine (tryO_c ⟨B + 1 + 1, 0, none⟩ ⟨B + 1 + 1 + 1, 0, none⟩ w0 (fun w' => But2 (B + 1 + 1 + 1) (B + 1) (w0.alloc (.cells #[.int .i64 0] 35)) w' ∧ ∃ (sa : Option Addr) (sc : Nat), ok6 w' (B + 1 + 1 + 1) oc os_ on og om (.slice sa ol.length sc) ∧ VIn (fun b => w0.heap.size < b) w' (VL ol) (.slice sa ol.length sc) ∧ ck w' (B + 1) a zs.length c n) (fun _ => False) (hcl.mono (fun e w' h => ⟨by rw [h.1.block _ hz1 (by omega) (by omega)]; exact HEE.out, .inl (by
      obtain ⟨h1, sa, sc, h2, h3, h4, h5⟩ := h
      exact ⟨h2, h1, sa, sc, h3, h4.keep (fun _ _ _ => rfl) (fun b hD _ => by have : (w0.alloc (.cells #[.int .i64 0] 35)).heap.size ≤ b := hD; show w0.heap.size < b; omega), h5⟩)⟩))).mono ?_
    rintro e w2 ⟨w1, hb12, ⟨rfl, hb1, sa, sc, hok, hv, hck⟩ | ⟨_, hf⟩⟩
    rotate_left
    · exact hf.elim
    have HB1 := Lib.hid ((But2.of_below (ob := B + 1 + 1 + 1) (rb := B + 1) HAE.out).trans hb1)
    have hk2 : ∀ k, k < w0.heap.size → k ≠ B + 1 + 1 + 1 → k ≠ B + 1 → w2.heap[k]? = w0.heap[k]? := fun k hk h1 h2 => by
      rw [hb12.block k (Nat.lt_of_lt_of_le hk HB1.out.size) (fun e => by have := Option.some.inj e; omega), HB1.out.block k hk h1 h2]
    have HRS2 := Lib.hid ((hk2 B (by omega) (by omega) (by omega)).trans HRS0.out)
    have HPP2 := Lib.hid ((hk2 (B + 1 + 1) (by omega) (by omega) (by omega)).trans HPP0.out)
    have HOK2 := Lib.hid (show ok6 w2 (B + 1 + 1 + 1) oc os_ on og om (.slice sa ol.length sc) from hb12.obj (by omega) hok)
    have HCK2 := Lib.hid (show ck w2 (B + 1) a zs.length c n from hb12.obj (by omega) hck)
    have HV2 := Lib.hid (show VIn (fun b => w0.heap.size < b) w2 (VL ol) (.slice sa ol.length sc) from hv.keep (fun b hD hb => hb12.block b hb (fun e => by have := Option.some.inj e; have : w0.heap.size < b := hD; omega)) (fun _ hD _ => hD))
    have HB2 := Lib.hid (show Below B w w2 from ⟨(hb12.os.trans HB1.out.os).trans HB0.out.os, (hb12.tape.trans HB1.out.tape).trans HB0.out.tape, (hb12.output.trans HB1.out.output).trans HB0.out.output, Nat.le_trans HB0.out.size (Nat.le_trans HB1.out.size hb12.size), fun k hk => by rw [hk2 k (by omega) (by omega) (by omega)]; exact HB0.out.block k hk⟩)
    have h0 : at6 w2 B 0 0 0 ⟨#[]⟩ ⟨#[]⟩ (.slice none 0 0) ∧ (∀ k, w2.frozen? ⟨B, k, none⟩ = false) ∧ B < w2.heap.size := ok6.cells (show ok6 w2 B 0 0 0 ⟨#[]⟩ ⟨#[]⟩ (.slice none 0 0) from HRS2.out)
    obtain ⟨⟨⟨c0, c1, c2⟩, c3, c4, c5⟩, hfz, hlz⟩ := h0
    have f0 := hfz 0
    have f1 := hfz 1
    have f2 := hfz 2
    have f3 := hfz 3
    have f4 := hfz 4
    have f5 := hfz 5
    clear hfz
    clear hb12 hb1 hk2 hcl hx hok hv hck
    go_wp2_with fail
    obtain ⟨⟨⟨o0, o1, o2⟩, o3, o4, o5⟩, _, _⟩ := HOK2.out.cells
    have hpp : w2.cell? ⟨B + 1 + 1, 0, none⟩ = some (.pointer (some ⟨B + 1, 0, none⟩)) := by have := HPP2.out; simp [World.cell?, this]
    obtain ⟨⟨_, k1⟩, _, _⟩ := HCK2.out.cells
    refine wp_region_M (fun w' => at6 w' (B + 1 + 1 + 1) oc os_ on og om (.slice sa ol.length sc) ∧ w'.cell? ⟨B + 1 + 1, 0, none⟩ = some (.pointer (some ⟨B + 1, 0, none⟩)) ∧ w'.cell? ⟨B + 1, 1, none⟩ = some (.int .i64 (n : Int))) [] (by kernel_rfl) ⟨⟨⟨o0, o1, o2⟩, o3, o4, o5⟩, hpp, k1⟩ (fun hT => ?_)
    refine M_take 0 hT rfl (by kernel_rfl) (by kernel_rfl) (by kernel_rfl) (by kernel_rfl) (fun _ _ _ h => h) (by rfl) (by (intro w' hw'; (try dsimp only at hw'); go_simp; try with_reducible rfl)) ?_
    try simp only [Act.put, List.setIfInBounds_toArray, List.set_cons_zero, List.set_cons_succ]
    refine M_take 1 hT rfl (by kernel_rfl) (by kernel_rfl) (by kernel_rfl) (by kernel_rfl) (fun _ _ _ h => h) (by rfl) (by (intro w' hw'; (try dsimp only at hw'); go_simp; try with_reducible rfl)) ?_
    try simp only [Act.put, List.setIfInBounds_toArray, List.set_cons_zero, List.set_cons_succ]
    refine M_take 2 hT rfl (by kernel_rfl) (by kernel_rfl) (by kernel_rfl) (by kernel_rfl) (fun _ _ _ h => h) (by rfl) (by (intro w' hw'; (try dsimp only at hw'); go_simp; try with_reducible rfl)) ?_
    try simp only [Act.put, List.setIfInBounds_toArray, List.set_cons_zero, List.set_cons_succ]
    refine M_take 3 hT rfl (by kernel_rfl) (by kernel_rfl) (by kernel_rfl) (by kernel_rfl) (fun _ _ _ h => h) (by rfl) (by (intro w' hw'; (try dsimp only at hw'); go_simp; try with_reducible rfl)) ?_
    try simp only [Act.put, List.setIfInBounds_toArray, List.set_cons_zero, List.set_cons_succ]
    refine M_take 4 hT rfl (by kernel_rfl) (by kernel_rfl) (by kernel_rfl) (by kernel_rfl) (fun _ _ _ h => h) (by rfl) (by (intro w' hw'; (try dsimp only at hw'); go_simp; try with_reducible rfl)) ?_
    try simp only [Act.put, List.setIfInBounds_toArray, List.set_cons_zero, List.set_cons_succ]
    refine M_one 5 rfl (by kernel_rfl) (fun K hK => ?_)
    rw [if_pos (by rfl)]
    go_simp
    have HB5 := Lib.hid (show Below B w ((((((w2.setCell ⟨B, 0, none⟩ (.int .u32 oc)).setCell ⟨B, 1, none⟩ (.int .u32 os_)).setCell ⟨B, 2, none⟩ (.int .u16 on)).setCell ⟨B, 3, none⟩ (.string og)).setCell ⟨B, 4, none⟩ (.string om)).setCell ⟨B, 5, none⟩ (.slice sa ol.length sc)).drew from ((((((HB2.out.setCell (Nat.le_refl B) _).setCell (Nat.le_refl B) _).setCell (Nat.le_refl B) _).setCell (Nat.le_refl B) _).setCell (Nat.le_refl B) _).setCell (Nat.le_refl B) _).drew)
    have HV5 := Lib.hid (show VIn (fun b => B ≤ b) ((((((w2.setCell ⟨B, 0, none⟩ (.int .u32 oc)).setCell ⟨B, 1, none⟩ (.int .u32 os_)).setCell ⟨B, 2, none⟩ (.int .u16 on)).setCell ⟨B, 3, none⟩ (.string og)).setCell ⟨B, 4, none⟩ (.string om)).setCell ⟨B, 5, none⟩ (.slice sa ol.length sc)).drew (VL ol) (.slice sa ol.length sc) from by
      refine HV2.out.keep (w' := ((((((w2.setCell ⟨B, 0, none⟩ (.int .u32 oc)).setCell ⟨B, 1, none⟩ (.int .u32 os_)).setCell ⟨B, 2, none⟩ (.int .u16 on)).setCell ⟨B, 3, none⟩ (.string og)).setCell ⟨B, 4, none⟩ (.string om)).setCell ⟨B, 5, none⟩ (.slice sa ol.length sc)).drew) (fun b hD _ => ?_) (fun b hD _ => Nat.le_of_lt (Nat.lt_of_le_of_lt HBW.out hD))
      have hne : b ≠ B := Nat.ne_of_gt (Nat.lt_of_le_of_lt HBW.out hD)
      rw [heap_drew, Below.heap_setCell _ _ _ _ hne, Below.heap_setCell _ _ _ _ hne, Below.heap_setCell _ _ _ _ hne, Below.heap_setCell _ _ _ _ hne, Below.heap_setCell _ _ _ _ hne, Below.heap_setCell _ _ _ _ hne])
    have z0 := block_setCell_self (i := 0) (u := .int .u32 oc) HRS2.out
    simp only [List.setIfInBounds_toArray, List.set_cons_zero, List.set_cons_succ] at z0
    have z1 := block_setCell_self (i := 1) (u := .int .u32 os_) z0
    simp only [List.setIfInBounds_toArray, List.set_cons_zero, List.set_cons_succ] at z1
    have z2 := block_setCell_self (i := 2) (u := .int .u16 on) z1
    simp only [List.setIfInBounds_toArray, List.set_cons_zero, List.set_cons_succ] at z2
    have z3 := block_setCell_self (i := 3) (u := .string og) z2
    simp only [List.setIfInBounds_toArray, List.set_cons_zero, List.set_cons_succ] at z3
    have z4 := block_setCell_self (i := 4) (u := .string om) z3
    simp only [List.setIfInBounds_toArray, List.set_cons_zero, List.set_cons_succ] at z4
    have z5 := block_setCell_self (i := 5) (u := .slice sa ol.length sc) z4
    simp only [List.setIfInBounds_toArray, List.set_cons_zero, List.set_cons_succ] at z5
    have HRS5 := Lib.hid (ok6.drew (show ok6 ((((((w2.setCell ⟨B, 0, none⟩ (.int .u32 oc)).setCell ⟨B, 1, none⟩ (.int .u32 os_)).setCell ⟨B, 2, none⟩ (.int .u16 on)).setCell ⟨B, 3, none⟩ (.string og)).setCell ⟨B, 4, none⟩ (.string om)).setCell ⟨B, 5, none⟩ (.slice sa ol.length sc)) B oc os_ on og om (.slice sa ol.length sc) from z5))
    clear z0 z1 z2 z3 z4 z5
    clear c0 c1 c2 c3 c4 c5 f0 f1 f2 f3 f4 f5 hlz
    have hk5 : ∀ k q, k ≠ B → ((((((w2.setCell ⟨B, 0, none⟩ (.int .u32 oc)).setCell ⟨B, 1, none⟩ (.int .u32 os_)).setCell ⟨B, 2, none⟩ (.int .u16 on)).setCell ⟨B, 3, none⟩ (.string og)).setCell ⟨B, 4, none⟩ (.string om)).setCell ⟨B, 5, none⟩ (.slice sa ol.length sc)).drew.cell? ⟨k, q, none⟩ = w2.cell? ⟨k, q, none⟩ := fun k q hne => World.cell?_of_block (w := w2) (by rw [heap_drew, Below.heap_setCell _ _ _ _ hne, Below.heap_setCell _ _ _ _ hne, Below.heap_setCell _ _ _ _ hne, Below.heap_setCell _ _ _ _ hne, Below.heap_setCell _ _ _ _ hne, Below.heap_setCell _ _ _ _ hne])
    have hT5 : (fun w' => at6 w' (B + 1 + 1 + 1) oc os_ on og om (.slice sa ol.length sc) ∧ w'.cell? ⟨B + 1 + 1, 0, none⟩ = some (.pointer (some ⟨B + 1, 0, none⟩)) ∧ w'.cell? ⟨B + 1, 1, none⟩ = some (.int .i64 (n : Int))) ((((((w2.setCell ⟨B, 0, none⟩ (.int .u32 oc)).setCell ⟨B, 1, none⟩ (.int .u32 os_)).setCell ⟨B, 2, none⟩ (.int .u16 on)).setCell ⟨B, 3, none⟩ (.string og)).setCell ⟨B, 4, none⟩ (.string om)).setCell ⟨B, 5, none⟩ (.slice sa ol.length sc)).drew := ⟨⟨⟨(hk5 _ _ (by omega)).trans o0, (hk5 _ _ (by omega)).trans o1, (hk5 _ _ (by omega)).trans o2⟩, (hk5 _ _ (by omega)).trans o3, (hk5 _ _ (by omega)).trans o4, (hk5 _ _ (by omega)).trans o5⟩, (hk5 _ _ (by omega)).trans hpp, (hk5 _ _ (by omega)).trans k1⟩
    generalize ((((((w2.setCell ⟨B, 0, none⟩ (.int .u32 oc)).setCell ⟨B, 1, none⟩ (.int .u32 os_)).setCell ⟨B, 2, none⟩ (.int .u16 on)).setCell ⟨B, 3, none⟩ (.string og)).setCell ⟨B, 4, none⟩ (.string om)).setCell ⟨B, 5, none⟩ (.slice sa ol.length sc)).drew = w5 at *
    refine hK _ _ (.inr hT5) ?_
    clear hK hT
    obtain ⟨⟨⟨c0, c1, c2⟩, c3, c4, c5⟩, _, _⟩ := HRS5.out.cells
    try simp only [Act.put, List.setIfInBounds_toArray, List.set_cons_zero, List.set_cons_succ]
    refine M_take 6 hT5 rfl (by kernel_rfl) (by kernel_rfl) (by kernel_rfl) (by kernel_rfl) (fun _ _ _ h => h) (by rfl) (by (intro w' hw'; (try dsimp only at hw'); go_simp; try with_reducible rfl)) ?_
    try simp only [Act.put, List.setIfInBounds_toArray, List.set_cons_zero, List.set_cons_succ]
    refine M_take 7 hT5 rfl (by kernel_rfl) (by kernel_rfl) (by kernel_rfl) (by kernel_rfl) (fun _ _ _ h => h) (by rfl) (by (intro w' hw'; (try dsimp only at hw'); go_simp; try with_reducible rfl)) ?_
    try simp only [Act.put, List.setIfInBounds_toArray, List.set_cons_zero, List.set_cons_succ]
    refine M_done (by kernel_rfl) ?_ _
    go_wp2_with fail
    exact bodyPost_ret (v := .tuple #[oval oc os_ on og om (.slice sa ol.length sc), .int .i64 n, .int .i64 0]) (by simp [results, Try.results11, go_sem, c0, c1, c2, c3, c4, c5]) rfl (RetO.mk sa sc HF.out rfl (by rw [HBQ.out]; exact HV5.out) (by rw [HBQ.out]; exact HB5.out))

/-- What comes of reading a reply. -/
def RetP (w : World) (r : RP × Int × Int) (e : Ending) (w' : World) : Prop := ∃ (sa : Option Addr) (sc : Nat),
  e = .returned (.tuple #[pval r.1.c r.1.s r.1.n r.1.e r.1.t (.slice sa r.1.t.l.length sc), .int .i64 r.2.1, .int .i64 r.2.2]) ∧ VIn (fun b => w.heap.size ≤ b) w' r.1.t (.slice sa r.1.t.l.length sc) ∧ Below w.heap.size w w'
theorem RetP.mk {w w' : World} {r : RP × Int × Int} {c s n e : Nat} {k i : Int} {f : Nat} {x : ByteArray} {l : List V} {N : Int} {E : Int} (sa : Option Addr) (sc : Nat) {len : Nat} (hr : r = (⟨c, s, n, e, V.mk k i f x l⟩, N, E)) (hlen : len = l.length) (hv : VIn (fun b => w.heap.size ≤ b) w' (V.mk k i f x l) (.slice sa len sc)) (hb : Below w.heap.size w w') :
    RetP w r (.returned (.tuple #[.agg #[.int .u32 c, .int .u32 s, .int .u16 n, .int .i64 e, .int .i64 k, .int .i64 i, .float .f64 f, .string x, .slice sa len sc], .int .i64 N, .int .i64 E])) w' := by
  subst hr; subst hlen
  exact ⟨sa, sc, rfl, hv, hb⟩
theorem rread_no {zs : List Int} (h : rrd zs = none) : rread zs = (⟨0, 0, 0, 0, V.nil⟩, 0, 20) := by unfold rread; rw [h]
theorem rread_yes {zs : List Int} {o n} (h : rrd zs = some (o, n)) : rread zs = (o, (n : Int), 0) := by unfold rread; rw [h]
theorem ok9.drew {w b c s n e k i f x sl} (h : ok9 w b c s n e k i f x sl) : ok9 w.drew b c s n e k i f x sl := h

set_option maxHeartbeats 1600000 in
theorem ReadP2_c (a : Option Addr) (c : Nat) (zs : List Int) (w : World) (hl : zs.length ≤ 140737488355328 ∧ zs.length ≤ c ∧ c ≤ 9223372036854775807) (hc : a = none → c = 0) (hz : BIn w a zs) :
    Calls Try.prog 14 #[.slice a zs.length c] w (RetP w (rread zs)) := by
  have hmf : ∀ (fn : Fn) (first cap : Array Value) (w : World), (Instr.makeFunc fn first cap).run Try.prog w = .ok (.func fn first cap) w := fun _ _ _ _ => rfl
  have HZ := Lib.hid hz
  generalize hr : rread zs = r
  have HR := Lib.hid hr.symm
  clear hz hr
  go_enter Try.func14, Try.ntmps14
  go_wp2_with fail
  have hz0 : w.heap.size + 1 + 1 + 1 + 1 = ((((w.alloc (.cells #[.int .u32 0, .int .u32 0, .int .u16 0, .int .i64 0, .int .i64 0, .int .i64 0, .float .f64 0, .string ⟨#[]⟩, .slice none 0 0] 45)).alloc (.cells #[.slice a zs.length c, .int .i64 0] 71)).alloc (.cells #[.pointer (some ⟨w.heap.size + 1, 0, none⟩)] 69)).alloc (.cells #[.int .u32 0, .int .u32 0, .int .u16 0, .int .i64 0, .int .i64 0, .int .i64 0, .float .f64 0, .string ⟨#[]⟩, .slice none 0 0] 45)).heap.size := by simp
  have HB0 := Lib.hid (show Below w.heap.size w ((((w.alloc (.cells #[.int .u32 0, .int .u32 0, .int .u16 0, .int .i64 0, .int .i64 0, .int .i64 0, .float .f64 0, .string ⟨#[]⟩, .slice none 0 0] 45)).alloc (.cells #[.slice a zs.length c, .int .i64 0] 71)).alloc (.cells #[.pointer (some ⟨w.heap.size + 1, 0, none⟩)] 69)).alloc (.cells #[.int .u32 0, .int .u32 0, .int .u16 0, .int .i64 0, .int .i64 0, .int .i64 0, .float .f64 0, .string ⟨#[]⟩, .slice none 0 0] 45)) from ((((Below.refl _ _).alloc (Nat.le_refl _) _).alloc (by simp) _).alloc (by simp; omega) _).alloc (by simp; omega) _)
  have HRS0 := Lib.hid (block_alloc_old (.cells #[.int .u32 0, .int .u32 0, .int .u16 0, .int .i64 0, .int .i64 0, .int .i64 0, .float .f64 0, .string ⟨#[]⟩, .slice none 0 0] 45) (block_alloc_old (.cells #[.pointer (some ⟨w.heap.size + 1, 0, none⟩)] 69) (block_alloc_old (.cells #[.slice a zs.length c, .int .i64 0] 71) (block_alloc_at (w := w) (n := w.heap.size) (.cells #[.int .u32 0, .int .u32 0, .int .u16 0, .int .i64 0, .int .i64 0, .int .i64 0, .float .f64 0, .string ⟨#[]⟩, .slice none 0 0] 45) rfl))))
  have HRK0 := Lib.hid (show ck ((((w.alloc (.cells #[.int .u32 0, .int .u32 0, .int .u16 0, .int .i64 0, .int .i64 0, .int .i64 0, .float .f64 0, .string ⟨#[]⟩, .slice none 0 0] 45)).alloc (.cells #[.slice a zs.length c, .int .i64 0] 71)).alloc (.cells #[.pointer (some ⟨w.heap.size + 1, 0, none⟩)] 69)).alloc (.cells #[.int .u32 0, .int .u32 0, .int .u16 0, .int .i64 0, .int .i64 0, .int .i64 0, .float .f64 0, .string ⟨#[]⟩, .slice none 0 0] 45)) (w.heap.size + 1) a zs.length c ((0 : Nat) : Int) from block_alloc_old (.cells #[.int .u32 0, .int .u32 0, .int .u16 0, .int .i64 0, .int .i64 0, .int .i64 0, .float .f64 0, .string ⟨#[]⟩, .slice none 0 0] 45) (block_alloc_old (.cells #[.pointer (some ⟨w.heap.size + 1, 0, none⟩)] 69) (block_alloc_at (w := w.alloc (.cells #[.int .u32 0, .int .u32 0, .int .u16 0, .int .i64 0, .int .i64 0, .int .i64 0, .float .f64 0, .string ⟨#[]⟩, .slice none 0 0] 45)) (n := w.heap.size + 1) (.cells #[.slice a zs.length c, .int .i64 0] 71) (by simp))))
  have HPP0 := Lib.hid (block_alloc_old (.cells #[.int .u32 0, .int .u32 0, .int .u16 0, .int .i64 0, .int .i64 0, .int .i64 0, .float .f64 0, .string ⟨#[]⟩, .slice none 0 0] 45) (block_alloc_at (w := (w.alloc (.cells #[.int .u32 0, .int .u32 0, .int .u16 0, .int .i64 0, .int .i64 0, .int .i64 0, .float .f64 0, .string ⟨#[]⟩, .slice none 0 0] 45)).alloc (.cells #[.slice a zs.length c, .int .i64 0] 71)) (n := w.heap.size + 1 + 1) (.cells #[.pointer (some ⟨w.heap.size + 1, 0, none⟩)] 69) (by simp)))
  have HOK0 := Lib.hid (show ok9 ((((w.alloc (.cells #[.int .u32 0, .int .u32 0, .int .u16 0, .int .i64 0, .int .i64 0, .int .i64 0, .float .f64 0, .string ⟨#[]⟩, .slice none 0 0] 45)).alloc (.cells #[.slice a zs.length c, .int .i64 0] 71)).alloc (.cells #[.pointer (some ⟨w.heap.size + 1, 0, none⟩)] 69)).alloc (.cells #[.int .u32 0, .int .u32 0, .int .u16 0, .int .i64 0, .int .i64 0, .int .i64 0, .float .f64 0, .string ⟨#[]⟩, .slice none 0 0] 45)) (w.heap.size + 1 + 1 + 1) 0 0 0 0 0 0 0 ⟨#[]⟩ (.slice none 0 0) from block_alloc_at (w := ((w.alloc (.cells #[.int .u32 0, .int .u32 0, .int .u16 0, .int .i64 0, .int .i64 0, .int .i64 0, .float .f64 0, .string ⟨#[]⟩, .slice none 0 0] 45)).alloc (.cells #[.slice a zs.length c, .int .i64 0] 71)).alloc (.cells #[.pointer (some ⟨w.heap.size + 1, 0, none⟩)] 69)) (n := w.heap.size + 1 + 1 + 1) (.cells #[.int .u32 0, .int .u32 0, .int .u16 0, .int .i64 0, .int .i64 0, .int .i64 0, .float .f64 0, .string ⟨#[]⟩, .slice none 0 0] 45) (by simp))
  generalize ((((w.alloc (.cells #[.int .u32 0, .int .u32 0, .int .u16 0, .int .i64 0, .int .i64 0, .int .i64 0, .float .f64 0, .string ⟨#[]⟩, .slice none 0 0] 45)).alloc (.cells #[.slice a zs.length c, .int .i64 0] 71)).alloc (.cells #[.pointer (some ⟨w.heap.size + 1, 0, none⟩)] 69)).alloc (.cells #[.int .u32 0, .int .u32 0, .int .u16 0, .int .i64 0, .int .i64 0, .int .i64 0, .float .f64 0, .string ⟨#[]⟩, .slice none 0 0] 45)) = w0 at *
  have HAE := Lib.hid ((Below.refl w0.heap.size w0).alloc (Nat.le_refl _) (.cells #[.int .i64 0] 35))
  have HEE := Lib.hid (block_alloc_at (w := w0) (.cells #[.int .i64 0] 35) rfl)
  have hz1 : w0.heap.size < (w0.alloc (.cells #[.int .i64 0] 35)).heap.size := by simp
  have hcl := readCR_c (w.heap.size + 1 + 1) (w.heap.size + 1 + 1 + 1) (w.heap.size + 1) a c zs (w0.alloc (.cells #[.int .i64 0] 35)) hl hc ((HZ.out.below HB0.out).below HAE.out) (by have := block_below HAE.out HPP0.out; simp [World.cell?, this]) (block_below HAE.out HOK0.out) (HRK0.out.below HAE.out) (by omega) (by omega) (by omega)
  generalize hB : w.heap.size = B at *
  have HBQ := Lib.hid hB
  have HBW := Lib.hid (show B ≤ w0.heap.size by omega)
  clear hB
  cases hx : rrd zs with
  | none =>
    have HF := Lib.hid (show r = (⟨0, 0, 0, 0, V.nil⟩, 0, 20) by rw [HR.out]; exact rread_no hx)
    rw [hx] at hcl
    refine (tryR_c ⟨B + 1 + 1, 0, none⟩ ⟨B + 1 + 1 + 1, 0, none⟩ w0 (fun _ => False) (fun w' => But2 (B + 1 + 1 + 1) (B + 1) (w0.alloc (.cells #[.int .i64 0] 35)) w') (hcl.mono (fun e w' h => ⟨by rw [h.1.block _ hz1 (by omega) (by omega)]; exact HEE.out, .inr ⟨h.2, h.1⟩⟩))).mono ?_
    rintro e w2 ⟨w1, hb12, ⟨_, hf⟩ | ⟨rfl, hb1⟩⟩
    · exact hf.elim
    have HB1 := Lib.hid ((But2.of_below (ob := B + 1 + 1 + 1) (rb := B + 1) HAE.out).trans hb1)
    have hk2 : ∀ k, k < w0.heap.size → k ≠ B + 1 + 1 + 1 → k ≠ B + 1 → w2.heap[k]? = w0.heap[k]? := fun k hk h1 h2 => by
      rw [hb12.block k (Nat.lt_of_lt_of_le hk HB1.out.size) (fun e => by have := Option.some.inj e; omega), HB1.out.block k hk h1 h2]
    have HRS2 := Lib.hid ((hk2 B (by omega) (by omega) (by omega)).trans HRS0.out)
    have HB2 := Lib.hid (show Below B w w2 from ⟨(hb12.os.trans HB1.out.os).trans HB0.out.os, (hb12.tape.trans HB1.out.tape).trans HB0.out.tape, (hb12.output.trans HB1.out.output).trans HB0.out.output, Nat.le_trans HB0.out.size (Nat.le_trans HB1.out.size hb12.size), fun k hk => by rw [hk2 k (by omega) (by omega) (by omega)]; exact HB0.out.block k hk⟩)
    have h0 : at9 w2 B 0 0 0 0 0 0 0 ⟨#[]⟩ (.slice none 0 0) ∧ (∀ k, w2.frozen? ⟨B, k, none⟩ = false) ∧ B < w2.heap.size := ok9.cells (show ok9 w2 B 0 0 0 0 0 0 0 ⟨#[]⟩ (.slice none 0 0) from HRS2.out)
    obtain ⟨⟨⟨c0, c1, c2⟩, c3, c4, c5, c6, c7, c8⟩, hfz, hlz⟩ := h0
    have f0 := hfz 0
    have f1 := hfz 1
    have f2 := hfz 2
    have f3 := hfz 3
    have f4 := hfz 4
    have f5 := hfz 5
    have f6 := hfz 6
    have f7 := hfz 7
    have f8 := hfz 8
    clear hfz
    clear hb12 hb1 hk2 hcl hx
    go_wp2_with fail
    exact bodyPost_ret (v := .tuple #[.agg #[.int .u32 0, .int .u32 0, .int .u16 0, .int .i64 0, .int .i64 0, .int .i64 0, .float .f64 0, .string ⟨#[]⟩, .slice none 0 0], .int .i64 0, .int .i64 20]) (by simp [results, Try.results14, go_sem, c0, c1, c2, c3, c4, c5, c6, c7, c8]) rfl (RetP.mk none 0 HF.out rfl VIn.nil (by rw [HBQ.out]; exact ((((((((HB2.out.setCell (Nat.le_refl B) _).setCell (Nat.le_refl B) _).setCell (Nat.le_refl B) _).setCell (Nat.le_refl B) _).setCell (Nat.le_refl B) _).setCell (Nat.le_refl B) _).setCell (Nat.le_refl B) _).setCell (Nat.le_refl B) _).setCell (Nat.le_refl B) _))
  | some p =>
    obtain ⟨⟨oc, os_, on, oe, ⟨ok_, oi, of_, ox, ol⟩⟩, n⟩ := p
    have HF := Lib.hid (show r = (⟨oc, os_, on, oe, ⟨ok_, oi, of_, ox, ol⟩⟩, (n : Int), 0) by rw [HR.out]; exact rread_yes hx)
    rw [hx] at hcl
    refine (tryR_c ⟨B + 1 + 1, 0, none⟩ ⟨B + 1 + 1 + 1, 0, none⟩ w0 (fun w' => But2 (B + 1 + 1 + 1) (B + 1) (w0.alloc (.cells #[.int .i64 0] 35)) w' ∧ ∃ (sa : Option Addr) (sc : Nat), ok9 w' (B + 1 + 1 + 1) oc os_ on oe ok_ oi of_ ox (.slice sa ol.length sc) ∧ VIn (fun b => w0.heap.size < b) w' (V.mk ok_ oi of_ ox ol) (.slice sa ol.length sc) ∧ ck w' (B + 1) a zs.length c n) (fun _ => False) (hcl.mono (fun e w' h => ⟨by rw [h.1.block _ hz1 (by omega) (by omega)]; exact HEE.out, .inl (by
      obtain ⟨h1, sa, sc, h2, h3, h4, h5⟩ := h
      exact ⟨h2, h1, sa, sc, h3, h4.keep (fun _ _ _ => rfl) (fun b hD _ => by have : (w0.alloc (.cells #[.int .i64 0] 35)).heap.size ≤ b := hD; show w0.heap.size < b; omega), h5⟩)⟩))).mono ?_
    rintro e w2 ⟨w1, hb12, ⟨rfl, hb1, sa, sc, hok, hv, hck⟩ | ⟨_, hf⟩⟩
    rotate_left
    · exact hf.elim
    have HB1 := Lib.hid ((But2.of_below (ob := B + 1 + 1 + 1) (rb := B + 1) HAE.out).trans hb1)
    have hk2 : ∀ k, k < w0.heap.size → k ≠ B + 1 + 1 + 1 → k ≠ B + 1 → w2.heap[k]? = w0.heap[k]? := fun k hk h1 h2 => by
      rw [hb12.block k (Nat.lt_of_lt_of_le hk HB1.out.size) (fun e => by have := Option.some.inj e; omega), HB1.out.block k hk h1 h2]
    have HRS2 := Lib.hid ((hk2 B (by omega) (by omega) (by omega)).trans HRS0.out)
    have HPP2 := Lib.hid ((hk2 (B + 1 + 1) (by omega) (by omega) (by omega)).trans HPP0.out)
    have HOK2 := Lib.hid (show ok9 w2 (B + 1 + 1 + 1) oc os_ on oe ok_ oi of_ ox (.slice sa ol.length sc) from hb12.obj (by omega) hok)
    have HCK2 := Lib.hid (show ck w2 (B + 1) a zs.length c n from hb12.obj (by omega) hck)
    have HV2 := Lib.hid (show VIn (fun b => w0.heap.size < b) w2 (V.mk ok_ oi of_ ox ol) (.slice sa ol.length sc) from hv.keep (fun b hD hb => hb12.block b hb (fun e => by have := Option.some.inj e; have : w0.heap.size < b := hD; omega)) (fun _ hD _ => hD))
    have HB2 := Lib.hid (show Below B w w2 from ⟨(hb12.os.trans HB1.out.os).trans HB0.out.os, (hb12.tape.trans HB1.out.tape).trans HB0.out.tape, (hb12.output.trans HB1.out.output).trans HB0.out.output, Nat.le_trans HB0.out.size (Nat.le_trans HB1.out.size hb12.size), fun k hk => by rw [hk2 k (by omega) (by omega) (by omega)]; exact HB0.out.block k hk⟩)
    have h0 : at9 w2 B 0 0 0 0 0 0 0 ⟨#[]⟩ (.slice none 0 0) ∧ (∀ k, w2.frozen? ⟨B, k, none⟩ = false) ∧ B < w2.heap.size := ok9.cells (show ok9 w2 B 0 0 0 0 0 0 0 ⟨#[]⟩ (.slice none 0 0) from HRS2.out)
    obtain ⟨⟨⟨c0, c1, c2⟩, c3, c4, c5, c6, c7, c8⟩, hfz, hlz⟩ := h0
    have f0 := hfz 0
    have f1 := hfz 1
    have f2 := hfz 2
    have f3 := hfz 3
    have f4 := hfz 4
    have f5 := hfz 5
    have f6 := hfz 6
    have f7 := hfz 7
    have f8 := hfz 8
    clear hfz
    clear hb12 hb1 hk2 hcl hx hok hv hck
    go_wp2_with fail
    obtain ⟨⟨⟨o0, o1, o2⟩, o3, o4, o5, o6, o7, o8⟩, _, _⟩ := HOK2.out.cells
    have hpp : w2.cell? ⟨B + 1 + 1, 0, none⟩ = some (.pointer (some ⟨B + 1, 0, none⟩)) := by have := HPP2.out; simp [World.cell?, this]
    obtain ⟨⟨_, k1⟩, _, _⟩ := HCK2.out.cells
    refine wp_region_M (fun w' => at9 w' (B + 1 + 1 + 1) oc os_ on oe ok_ oi of_ ox (.slice sa ol.length sc) ∧ w'.cell? ⟨B + 1 + 1, 0, none⟩ = some (.pointer (some ⟨B + 1, 0, none⟩)) ∧ w'.cell? ⟨B + 1, 1, none⟩ = some (.int .i64 (n : Int))) [] (by kernel_rfl) ⟨⟨⟨o0, o1, o2⟩, o3, o4, o5, o6, o7, o8⟩, hpp, k1⟩ (fun hT => ?_)
    refine M_take 0 hT rfl (by kernel_rfl) (by kernel_rfl) (by kernel_rfl) (by kernel_rfl) (fun _ _ _ h => h) (by rfl) (by (intro w' hw'; (try dsimp only at hw'); go_simp; try with_reducible rfl)) ?_
    try simp only [Act.put, List.setIfInBounds_toArray, List.set_cons_zero, List.set_cons_succ]
    refine M_take 1 hT rfl (by kernel_rfl) (by kernel_rfl) (by kernel_rfl) (by kernel_rfl) (fun _ _ _ h => h) (by rfl) (by (intro w' hw'; (try dsimp only at hw'); go_simp; try with_reducible rfl)) ?_
    try simp only [Act.put, List.setIfInBounds_toArray, List.set_cons_zero, List.set_cons_succ]
    refine M_take 2 hT rfl (by kernel_rfl) (by kernel_rfl) (by kernel_rfl) (by kernel_rfl) (fun _ _ _ h => h) (by rfl) (by (intro w' hw'; (try dsimp only at hw'); go_simp; try with_reducible rfl)) ?_
    try simp only [Act.put, List.setIfInBounds_toArray, List.set_cons_zero, List.set_cons_succ]
    refine M_take 3 hT rfl (by kernel_rfl) (by kernel_rfl) (by kernel_rfl) (by kernel_rfl) (fun _ _ _ h => h) (by rfl) (by (intro w' hw'; (try dsimp only at hw'); go_simp; try with_reducible rfl)) ?_
    try simp only [Act.put, List.setIfInBounds_toArray, List.set_cons_zero, List.set_cons_succ]
    refine M_take 4 hT rfl (by kernel_rfl) (by kernel_rfl) (by kernel_rfl) (by kernel_rfl) (fun _ _ _ h => h) (by rfl) (by (intro w' hw'; (try dsimp only at hw'); go_simp; try with_reducible rfl)) ?_
    try simp only [Act.put, List.setIfInBounds_toArray, List.set_cons_zero, List.set_cons_succ]
    refine M_one 5 rfl (by kernel_rfl) (fun K hK => ?_)
    rw [if_pos (by rfl)]
    go_simp
    have HB5 := Lib.hid (show Below B w (((((((((w2.setCell ⟨B, 0, none⟩ (.int .u32 oc)).setCell ⟨B, 1, none⟩ (.int .u32 os_)).setCell ⟨B, 2, none⟩ (.int .u16 on)).setCell ⟨B, 3, none⟩ (.int .i64 oe)).setCell ⟨B, 4, none⟩ (.int .i64 ok_)).setCell ⟨B, 5, none⟩ (.int .i64 oi)).setCell ⟨B, 6, none⟩ (.float .f64 of_)).setCell ⟨B, 7, none⟩ (.string ox)).setCell ⟨B, 8, none⟩ (.slice sa ol.length sc)).drew from (((((((((HB2.out.setCell (Nat.le_refl B) _).setCell (Nat.le_refl B) _).setCell (Nat.le_refl B) _).setCell (Nat.le_refl B) _).setCell (Nat.le_refl B) _).setCell (Nat.le_refl B) _).setCell (Nat.le_refl B) _).setCell (Nat.le_refl B) _).setCell (Nat.le_refl B) _).drew)
    have HV5 := Lib.hid (show VIn (fun b => B ≤ b) (((((((((w2.setCell ⟨B, 0, none⟩ (.int .u32 oc)).setCell ⟨B, 1, none⟩ (.int .u32 os_)).setCell ⟨B, 2, none⟩ (.int .u16 on)).setCell ⟨B, 3, none⟩ (.int .i64 oe)).setCell ⟨B, 4, none⟩ (.int .i64 ok_)).setCell ⟨B, 5, none⟩ (.int .i64 oi)).setCell ⟨B, 6, none⟩ (.float .f64 of_)).setCell ⟨B, 7, none⟩ (.string ox)).setCell ⟨B, 8, none⟩ (.slice sa ol.length sc)).drew (V.mk ok_ oi of_ ox ol) (.slice sa ol.length sc) from by
      refine HV2.out.keep (w' := (((((((((w2.setCell ⟨B, 0, none⟩ (.int .u32 oc)).setCell ⟨B, 1, none⟩ (.int .u32 os_)).setCell ⟨B, 2, none⟩ (.int .u16 on)).setCell ⟨B, 3, none⟩ (.int .i64 oe)).setCell ⟨B, 4, none⟩ (.int .i64 ok_)).setCell ⟨B, 5, none⟩ (.int .i64 oi)).setCell ⟨B, 6, none⟩ (.float .f64 of_)).setCell ⟨B, 7, none⟩ (.string ox)).setCell ⟨B, 8, none⟩ (.slice sa ol.length sc)).drew) (fun b hD _ => ?_) (fun b hD _ => Nat.le_of_lt (Nat.lt_of_le_of_lt HBW.out hD))
      have hne : b ≠ B := Nat.ne_of_gt (Nat.lt_of_le_of_lt HBW.out hD)
      rw [heap_drew, Below.heap_setCell _ _ _ _ hne, Below.heap_setCell _ _ _ _ hne, Below.heap_setCell _ _ _ _ hne, Below.heap_setCell _ _ _ _ hne, Below.heap_setCell _ _ _ _ hne, Below.heap_setCell _ _ _ _ hne, Below.heap_setCell _ _ _ _ hne, Below.heap_setCell _ _ _ _ hne, Below.heap_setCell _ _ _ _ hne])
    have z0 := block_setCell_self (i := 0) (u := .int .u32 oc) HRS2.out
    simp only [List.setIfInBounds_toArray, List.set_cons_zero, List.set_cons_succ] at z0
    have z1 := block_setCell_self (i := 1) (u := .int .u32 os_) z0
    simp only [List.setIfInBounds_toArray, List.set_cons_zero, List.set_cons_succ] at z1
    have z2 := block_setCell_self (i := 2) (u := .int .u16 on) z1
    simp only [List.setIfInBounds_toArray, List.set_cons_zero, List.set_cons_succ] at z2
    have z3 := block_setCell_self (i := 3) (u := .int .i64 oe) z2
    simp only [List.setIfInBounds_toArray, List.set_cons_zero, List.set_cons_succ] at z3
    have z4 := block_setCell_self (i := 4) (u := .int .i64 ok_) z3
    simp only [List.setIfInBounds_toArray, List.set_cons_zero, List.set_cons_succ] at z4
    have z5 := block_setCell_self (i := 5) (u := .int .i64 oi) z4
    simp only [List.setIfInBounds_toArray, List.set_cons_zero, List.set_cons_succ] at z5
    have z6 := block_setCell_self (i := 6) (u := .float .f64 of_) z5
    simp only [List.setIfInBounds_toArray, List.set_cons_zero, List.set_cons_succ] at z6
    have z7 := block_setCell_self (i := 7) (u := .string ox) z6
    simp only [List.setIfInBounds_toArray, List.set_cons_zero, List.set_cons_succ] at z7
    have z8 := block_setCell_self (i := 8) (u := .slice sa ol.length sc) z7
    simp only [List.setIfInBounds_toArray, List.set_cons_zero, List.set_cons_succ] at z8
    have HRS5 := Lib.hid (ok9.drew (show ok9 (((((((((w2.setCell ⟨B, 0, none⟩ (.int .u32 oc)).setCell ⟨B, 1, none⟩ (.int .u32 os_)).setCell ⟨B, 2, none⟩ (.int .u16 on)).setCell ⟨B, 3, none⟩ (.int .i64 oe)).setCell ⟨B, 4, none⟩ (.int .i64 ok_)).setCell ⟨B, 5, none⟩ (.int .i64 oi)).setCell ⟨B, 6, none⟩ (.float .f64 of_)).setCell ⟨B, 7, none⟩ (.string ox)).setCell ⟨B, 8, none⟩ (.slice sa ol.length sc)) B oc os_ on oe ok_ oi of_ ox (.slice sa ol.length sc) from z8))
    clear z0 z1 z2 z3 z4 z5 z6 z7 z8
    clear c0 c1 c2 c3 c4 c5 f0 f1 f2 f3 f4 f5 f6 f7 f8 hlz c6 c7 c8
    have hk5 : ∀ k q, k ≠ B → (((((((((w2.setCell ⟨B, 0, none⟩ (.int .u32 oc)).setCell ⟨B, 1, none⟩ (.int .u32 os_)).setCell ⟨B, 2, none⟩ (.int .u16 on)).setCell ⟨B, 3, none⟩ (.int .i64 oe)).setCell ⟨B, 4, none⟩ (.int .i64 ok_)).setCell ⟨B, 5, none⟩ (.int .i64 oi)).setCell ⟨B, 6, none⟩ (.float .f64 of_)).setCell ⟨B, 7, none⟩ (.string ox)).setCell ⟨B, 8, none⟩ (.slice sa ol.length sc)).drew.cell? ⟨k, q, none⟩ = w2.cell? ⟨k, q, none⟩ := fun k q hne => World.cell?_of_block (w := w2) (by rw [heap_drew, Below.heap_setCell _ _ _ _ hne, Below.heap_setCell _ _ _ _ hne, Below.heap_setCell _ _ _ _ hne, Below.heap_setCell _ _ _ _ hne, Below.heap_setCell _ _ _ _ hne, Below.heap_setCell _ _ _ _ hne, Below.heap_setCell _ _ _ _ hne, Below.heap_setCell _ _ _ _ hne, Below.heap_setCell _ _ _ _ hne])
    have hT5 : (fun w' => at9 w' (B + 1 + 1 + 1) oc os_ on oe ok_ oi of_ ox (.slice sa ol.length sc) ∧ w'.cell? ⟨B + 1 + 1, 0, none⟩ = some (.pointer (some ⟨B + 1, 0, none⟩)) ∧ w'.cell? ⟨B + 1, 1, none⟩ = some (.int .i64 (n : Int))) (((((((((w2.setCell ⟨B, 0, none⟩ (.int .u32 oc)).setCell ⟨B, 1, none⟩ (.int .u32 os_)).setCell ⟨B, 2, none⟩ (.int .u16 on)).setCell ⟨B, 3, none⟩ (.int .i64 oe)).setCell ⟨B, 4, none⟩ (.int .i64 ok_)).setCell ⟨B, 5, none⟩ (.int .i64 oi)).setCell ⟨B, 6, none⟩ (.float .f64 of_)).setCell ⟨B, 7, none⟩ (.string ox)).setCell ⟨B, 8, none⟩ (.slice sa ol.length sc)).drew := ⟨⟨⟨(hk5 _ _ (by omega)).trans o0, (hk5 _ _ (by omega)).trans o1, (hk5 _ _ (by omega)).trans o2⟩, (hk5 _ _ (by omega)).trans o3, (hk5 _ _ (by omega)).trans o4, (hk5 _ _ (by omega)).trans o5, (hk5 _ _ (by omega)).trans o6, (hk5 _ _ (by omega)).trans o7, (hk5 _ _ (by omega)).trans o8⟩, (hk5 _ _ (by omega)).trans hpp, (hk5 _ _ (by omega)).trans k1⟩
    generalize (((((((((w2.setCell ⟨B, 0, none⟩ (.int .u32 oc)).setCell ⟨B, 1, none⟩ (.int .u32 os_)).setCell ⟨B, 2, none⟩ (.int .u16 on)).setCell ⟨B, 3, none⟩ (.int .i64 oe)).setCell ⟨B, 4, none⟩ (.int .i64 ok_)).setCell ⟨B, 5, none⟩ (.int .i64 oi)).setCell ⟨B, 6, none⟩ (.float .f64 of_)).setCell ⟨B, 7, none⟩ (.string ox)).setCell ⟨B, 8, none⟩ (.slice sa ol.length sc)).drew = w5 at *
    refine hK _ _ (.inr hT5) ?_
    clear hK hT
    obtain ⟨⟨⟨c0, c1, c2⟩, c3, c4, c5, c6, c7, c8⟩, _, _⟩ := HRS5.out.cells
    try simp only [Act.put, List.setIfInBounds_toArray, List.set_cons_zero, List.set_cons_succ]
    refine M_take 6 hT5 rfl (by kernel_rfl) (by kernel_rfl) (by kernel_rfl) (by kernel_rfl) (fun _ _ _ h => h) (by rfl) (by (intro w' hw'; (try dsimp only at hw'); go_simp; try with_reducible rfl)) ?_
    try simp only [Act.put, List.setIfInBounds_toArray, List.set_cons_zero, List.set_cons_succ]
    refine M_take 7 hT5 rfl (by kernel_rfl) (by kernel_rfl) (by kernel_rfl) (by kernel_rfl) (fun _ _ _ h => h) (by rfl) (by (intro w' hw'; (try dsimp only at hw'); go_simp; try with_reducible rfl)) ?_
    try simp only [Act.put, List.setIfInBounds_toArray, List.set_cons_zero, List.set_cons_succ]
    refine M_done (by kernel_rfl) ?_ _
    go_wp2_with fail
    exact bodyPost_ret (v := .tuple #[.agg #[.int .u32 oc, .int .u32 os_, .int .u16 on, .int .i64 oe, .int .i64 ok_, .int .i64 oi, .float .f64 of_, .string ox, .slice sa ol.length sc], .int .i64 n, .int .i64 0]) (by simp [results, Try.results14, go_sem, c0, c1, c2, c3, c4, c5, c6, c7, c8]) rfl (RetP.mk sa sc HF.out rfl (by rw [HBQ.out]; exact HV5.out) (by rw [HBQ.out]; exact HB5.out))
end Go.Proofs.Ytkhgbbloeeaceaa
