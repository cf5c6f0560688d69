/- Arguments opened: a call. -/
import Derived.Test.YtkhgbbloeeaceaaOp
import Derived.Test.YtkhgbbloeeaceaaLi
import Derived.Test.YtkhgbbloeeaceaaOa
import Derived.ChangeSlices
namespace Go.Proofs.Ytkhgbbloeeaceaa
set_option maxRecDepth 16000
open Go Go.ChangeShapes Go.WideShapes Go.RowKit

section
variable {H : Type} {enc : TypeId × Value → H} {w : World} {base : Nat} {sp : Nat → Bool} {hd : Bool}

theorem open_vals {fuel : Nat} {cs : List Value} {x : DataW H × List MemPlace} (h4 : DataW.trod enc Try.prog w base sp hd fuel 27 cs = some x) (hw : ∀ n ∈ x.1.weights Try.prog 27, n ≤ reachBytes) :
    ∃ (a : Option Addr) (c : Nat) (l : List V), cs = [.slice a l.length c] ∧ l.length ≤ c ∧ c ≤ 9223372036854775807 ∧ (a = none → c = 0) ∧ l.length * 64 ≤ reachBytes ∧ LIn (fun _ => True) w a l := by
  rcases DataW.trod_slice Try.underlying27 h4 with ⟨e4, _⟩ | ⟨a, len, cap, elems, rest, m, rfl, e4, e5, _, hlc, hcm, hel, hat, _, _⟩
  · subst e4
    exact ⟨none, 0, [], rfl, by decide, by decide, fun _ => rfl, by decide, .inl rfl⟩
  · subst e4
    subst e5
    simp only [DataW.weights, Try.underlying27] at hw
    have hsz := hw _ (List.mem_cons_self ..)
    rw [show Try.prog.bytesOf 43 = 64 by kernel_rfl, List.length_map] at hsz
    rw [show Try.prog.cellsOf 43 = 5 by kernel_rfl] at hat
    have hlr : len * 64 ≤ reachBytes := by
      have : len * 64 ≤ (elems.length + (rest.map (·.1)).length) * 64 := Nat.mul_le_mul_right _ (by omega)
      omega
    have hcm' : cap ≤ 9223372036854775807 := hcm
    by_cases hz : len = 0
    · subst hz
      exact ⟨some a, cap, [], rfl, by simp, hcm', (fun e => by cases e), by decide, .inl rfl⟩
    · obtain ⟨b, o, spot⟩ := a
      have hone : ∀ j (hj : j < len), ∃ cs', w.cells? base ((⟨b, o, spot⟩ : Addr).add (j * 5)) 5 = some cs' ∧ DataW.trod enc Try.prog w base sp hd m 43 cs' = some (elems[j]'(by omega)) := fun j hj => by
        have := hat j hj
        rw [List.getElem?_eq_getElem (by omega)] at this
        exact Option.bind_eq_some_iff.1 this
      have hspot : spot = none := by
        obtain ⟨cs', hc, _⟩ := hone 0 (by omega)
        obtain ⟨_, hl5, hcell⟩ := World.cells?_some hc
        have := hcell 0 (by omega)
        rw [List.getElem?_eq_getElem (by omega)] at this
        simpa [Addr.add] using World.cell?_spot this
      subst hspot
      obtain ⟨l, hl, he⟩ := build_list (w := w) (D := fun _ => True) (b := b) trivial len o (fun j hj => by
        obtain ⟨cs', hc, ht⟩ := hone j hj
        obtain ⟨t, sl, rfl, hv⟩ := open_val m cs' _ ht (fun q hq => hw q (List.mem_cons_of_mem _ (List.mem_append_left _ (weights_all (List.mem_map_of_mem (List.getElem_mem (by omega))) q hq))))
        obtain ⟨_, _, hcell⟩ := World.cells?_some hc
        rw [addr_add] at hcell
        have g0 := hcell 0 (by omega)
        have g1 := hcell 1 (by omega)
        have g2 := hcell 2 (by omega)
        have g3 := hcell 3 (by omega)
        have g4 := hcell 4 (by omega)
        rw [addr_add] at g0 g1 g2 g3 g4
        exact ⟨t, sl, ⟨g0, g1, g2, g3, g4⟩, hv⟩)
      subst hl
      exact ⟨some ⟨b, o, none⟩, cap, l, rfl, hlc, hcm', (fun e => by cases e), hlr, .inr ⟨b, o, rfl, he⟩⟩

theorem open_op {r : Reach} {b0 : Nat} {v : Value} {d : DataW H} {ps : List MemPlace} (hval : Value.okWide Try.prog w r b0 29 v) (h : DataW.Trod enc Try.prog w base sp hd 29 v d ps) (hw : ∀ n ∈ d.weights Try.prog 29, n ≤ reachBytes) :
    ∃ (c s n : Nat) (g m : ByteArray) (l : List V) (va : Option Addr) (vc : Nat), v = oval c s n g m (.slice va l.length vc) ∧ (c < 4294967296 ∧ s < 4294967296 ∧ n < 65536) ∧ (g.size ≤ 140737488351232 ∧ m.size ≤ 140737488351232) ∧ VIn (fun _ => True) w (VL l) (.slice va l.length vc) := by
  unfold Value.okWide at hval
  rw [Try.underlying29] at hval
  obtain ⟨⟨cs⟩, rfl, _, _⟩ := hval
  obtain ⟨fuel, h⟩ := h
  simp only [Value.cells] at h
  obtain ⟨xs, n, rfl, hx, hlen, hxl, hf⟩ := DataW.trod_struct Try.underlying29 h
  obtain ⟨hd1, _⟩ := Prod.mk.inj hx
  subst hd1
  rw [show Try.prog.cellsOf 29 = 6 by kernel_rfl] at hlen
  obtain ⟨x0, x1, x2, x3, rfl⟩ : ∃ x0 x1 x2 x3, xs = [x0, x1, x2, x3] := by
    match xs, hxl with
    | [x0, x1, x2, x3], _ => exact ⟨_, _, _, _, rfl⟩
  obtain ⟨c0, c1, c2, c3, c4, c5, rfl⟩ : ∃ c0 c1 c2 c3 c4 c5, cs = [c0, c1, c2, c3, c4, c5] := by
    match cs, hlen with
    | [c0, c1, c2, c3, c4, c5], _ => exact ⟨_, _, _, _, _, _, rfl⟩
  have h0 : DataW.trod enc Try.prog w base sp hd n 26 (List.take (Try.prog.cellsOf 26) (List.drop 0 [c0, c1, c2, c3, c4, c5])) = _ := hf 0 _ rfl
  have h1 : DataW.trod enc Try.prog w base sp hd n 9 (List.take (Try.prog.cellsOf 9) (List.drop 3 [c0, c1, c2, c3, c4, c5])) = _ := hf 1 _ rfl
  have h2 : DataW.trod enc Try.prog w base sp hd n 9 (List.take (Try.prog.cellsOf 9) (List.drop 4 [c0, c1, c2, c3, c4, c5])) = _ := hf 2 _ rfl
  have h3 : DataW.trod enc Try.prog w base sp hd n 27 (List.take (Try.prog.cellsOf 27) (List.drop 5 [c0, c1, c2, c3, c4, c5])) = _ := hf 3 _ rfl
  rw [show Try.prog.cellsOf 26 = 3 by kernel_rfl] at h0
  rw [show Try.prog.cellsOf 9 = 1 by kernel_rfl] at h1 h2
  rw [show Try.prog.cellsOf 27 = 1 by kernel_rfl] at h3
  simp only [List.drop_zero, List.drop_succ_cons, List.take_succ_cons, List.take_zero, List.getElem?_cons_zero, List.getElem?_cons_succ] at h0 h1 h2 h3
  simp only [List.map_cons, List.map_nil, DataW.weights, Try.underlying29, DataW.weightsEach, List.append_nil] at hw
  obtain ⟨g, e1, rfl, _⟩ := DataW.trod_string Try.underlying9 h1
  obtain ⟨m, e2, rfl, _⟩ := DataW.trod_string Try.underlying9 h2
  have hgs : g.size ≤ reachBytes := by
    have := hw g.data.toList.length (by simp [DataW.weights, Try.underlying9])
    simpa using this
  have hms : m.size ≤ reachBytes := by
    have := hw m.data.toList.length (by simp [DataW.weights, Try.underlying9])
    simpa using this
  obtain ⟨va, vc, l, e3, hlc, hcm, hvn, hlw, hin⟩ := open_vals h3 (fun q hq => hw q (by simp [hq]))
  obtain ⟨ys, k, rfl, _, _, hyl, hg⟩ := DataW.trod_struct Try.underlying26 h0
  obtain ⟨y0, y1, y2, rfl⟩ : ∃ y0 y1 y2, ys = [y0, y1, y2] := by
    match ys, hyl with
    | [y0, y1, y2], _ => exact ⟨_, _, _, rfl⟩
  have g0 : DataW.trod enc Try.prog w base sp hd k 23 (List.take (Try.prog.cellsOf 23) (List.drop 0 [c0, c1, c2])) = _ := hg 0 _ rfl
  have g1 : DataW.trod enc Try.prog w base sp hd k 23 (List.take (Try.prog.cellsOf 23) (List.drop 1 [c0, c1, c2])) = _ := hg 1 _ rfl
  have g2 : DataW.trod enc Try.prog w base sp hd k 24 (List.take (Try.prog.cellsOf 24) (List.drop 2 [c0, c1, c2])) = _ := hg 2 _ rfl
  rw [show Try.prog.cellsOf 23 = 1 by kernel_rfl] at g0 g1
  rw [show Try.prog.cellsOf 24 = 1 by kernel_rfl] at g2
  simp only [List.drop_zero, List.drop_succ_cons, List.take_succ_cons, List.take_zero, List.getElem?_cons_zero, List.getElem?_cons_succ] at g0 g1 g2
  obtain ⟨c, f0, _, w0⟩ := DataW.trod_int Try.underlying23 g0
  obtain ⟨s, f1, _, w1⟩ := DataW.trod_int Try.underlying23 g1
  obtain ⟨n', f2, _, w2⟩ := DataW.trod_int Try.underlying24 g2
  simp only [List.cons.injEq, and_true] at e1 e2 e3 f0 f1 f2
  subst e1 e2 e3 f0 f1 f2
  simp [Lit.wf, IntKind.min, IntKind.max, IntKind.signed, IntKind.bits] at w0 w1 w2
  obtain ⟨cN, rfl⟩ : ∃ cN : Nat, c = cN := ⟨c.toNat, by omega⟩
  obtain ⟨sN, rfl⟩ : ∃ sN : Nat, s = sN := ⟨s.toNat, by omega⟩
  obtain ⟨nN, rfl⟩ : ∃ nN : Nat, n' = nN := ⟨n'.toNat, by omega⟩
  exact ⟨cN, sN, nN, g, m, l, va, vc, rfl, ⟨by omega, by omega, by omega⟩, ⟨hgs, hms⟩, VIn.lsts ⟨hlc, hcm⟩ hvn hlw hin⟩
theorem open_replyN {r : Reach} {b0 : Nat} {v : Value} {d : DataW H} {ps : List MemPlace} (hval : Value.okWide Try.prog w r b0 45 v) (h : DataW.Trod enc Try.prog w base sp hd 45 v d ps) (hw : ∀ n ∈ d.weights Try.prog 45, n ≤ reachBytes) :
    ∃ (c s n : Nat) (e : Int) (t : V) (sl : Value), v = .agg #[.int .u32 c, .int .u32 s, .int .u16 n, .int .i64 e, .int .i64 t.k, .int .i64 t.i, .float .f64 t.f, .string t.s, sl] ∧ (c < 4294967296 ∧ s < 4294967296 ∧ n < 65536) ∧ VIn (fun _ => True) w t sl := by
  unfold Value.okWide at hval
  rw [Try.underlying45] at hval
  obtain ⟨⟨cs⟩, rfl, _, _⟩ := hval
  obtain ⟨fuel, h⟩ := h
  simp only [Value.cells] at h
  obtain ⟨xs, n, rfl, hx, hlen, hxl, hf⟩ := DataW.trod_struct Try.underlying45 h
  obtain ⟨hd1, _⟩ := Prod.mk.inj hx
  subst hd1
  rw [show Try.prog.cellsOf 45 = 9 by kernel_rfl] at hlen
  obtain ⟨x0, x1, x2, rfl⟩ : ∃ x0 x1 x2, xs = [x0, x1, x2] := by
    match xs, hxl with
    | [x0, x1, x2], _ => exact ⟨_, _, _, rfl⟩
  obtain ⟨c0, c1, c2, c3, c4, c5, c6, c7, c8, rfl⟩ : ∃ c0 c1 c2 c3 c4 c5 c6 c7 c8, cs = [c0, c1, c2, c3, c4, c5, c6, c7, c8] := by
    match cs, hlen with
    | [c0, c1, c2, c3, c4, c5, c6, c7, c8], _ => exact ⟨_, _, _, _, _, _, _, _, _, rfl⟩
  have h0 : DataW.trod enc Try.prog w base sp hd n 26 (List.take (Try.prog.cellsOf 26) (List.drop 0 [c0, c1, c2, c3, c4, c5, c6, c7, c8])) = _ := hf 0 _ rfl
  have h1 : DataW.trod enc Try.prog w base sp hd n 35 (List.take (Try.prog.cellsOf 35) (List.drop 3 [c0, c1, c2, c3, c4, c5, c6, c7, c8])) = _ := hf 1 _ rfl
  have h2 : DataW.trod enc Try.prog w base sp hd n 43 (List.take (Try.prog.cellsOf 43) (List.drop 4 [c0, c1, c2, c3, c4, c5, c6, c7, c8])) = _ := hf 2 _ rfl
  rw [show Try.prog.cellsOf 26 = 3 by kernel_rfl] at h0
  rw [show Try.prog.cellsOf 35 = 1 by kernel_rfl] at h1
  rw [show Try.prog.cellsOf 43 = 5 by kernel_rfl] at h2
  simp only [List.drop_zero, List.drop_succ_cons, List.take_succ_cons, List.take_zero, List.getElem?_cons_zero, List.getElem?_cons_succ] at h0 h1 h2
  simp only [List.map_cons, List.map_nil, DataW.weights, Try.underlying45, DataW.weightsEach, List.append_nil] at hw
  obtain ⟨e, e1, _, _⟩ := DataW.trod_int Try.underlying35 h1
  obtain ⟨t, sl, e2, hv⟩ := open_val n _ _ h2 (fun q hq => hw q (by simp [hq]))
  obtain ⟨ys, m, rfl, _, _, hyl, hg⟩ := DataW.trod_struct Try.underlying26 h0
  obtain ⟨y0, y1, y2, rfl⟩ : ∃ y0 y1 y2, ys = [y0, y1, y2] := by
    match ys, hyl with
    | [y0, y1, y2], _ => exact ⟨_, _, _, rfl⟩
  have g0 : DataW.trod enc Try.prog w base sp hd m 23 (List.take (Try.prog.cellsOf 23) (List.drop 0 [c0, c1, c2])) = _ := hg 0 _ rfl
  have g1 : DataW.trod enc Try.prog w base sp hd m 23 (List.take (Try.prog.cellsOf 23) (List.drop 1 [c0, c1, c2])) = _ := hg 1 _ rfl
  have g2 : DataW.trod enc Try.prog w base sp hd m 24 (List.take (Try.prog.cellsOf 24) (List.drop 2 [c0, c1, c2])) = _ := hg 2 _ rfl
  rw [show Try.prog.cellsOf 23 = 1 by kernel_rfl] at g0 g1
  rw [show Try.prog.cellsOf 24 = 1 by kernel_rfl] at g2
  simp only [List.drop_zero, List.drop_succ_cons, List.take_succ_cons, List.take_zero, List.getElem?_cons_zero, List.getElem?_cons_succ] at g0 g1 g2
  obtain ⟨c, f0, _, w0⟩ := DataW.trod_int Try.underlying23 g0
  obtain ⟨s, f1, _, w1⟩ := DataW.trod_int Try.underlying23 g1
  obtain ⟨n', f2, _, w2⟩ := DataW.trod_int Try.underlying24 g2
  simp only [List.cons.injEq, and_true] at e1 e2 f0 f1 f2
  obtain ⟨rfl, rfl, rfl, rfl, rfl⟩ := e2
  subst e1 f0 f1 f2
  simp [Lit.wf, IntKind.min, IntKind.max, IntKind.signed, IntKind.bits] at w0 w1 w2
  obtain ⟨cN, rfl⟩ : ∃ cN : Nat, c = cN := ⟨c.toNat, by omega⟩
  obtain ⟨sN, rfl⟩ : ∃ sN : Nat, s = sN := ⟨s.toNat, by omega⟩
  obtain ⟨nN, rfl⟩ : ∃ nN : Nat, n' = nN := ⟨n'.toNat, by omega⟩
  exact ⟨cN, sN, nN, e, t, _, rfl, ⟨by omega, by omega, by omega⟩, hv⟩
end
end Go.Proofs.Ytkhgbbloeeaceaa
