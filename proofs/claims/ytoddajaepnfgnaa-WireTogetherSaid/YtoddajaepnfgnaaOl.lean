/- Arguments opened: a slice of values. -/
import Derived.Test.YtoddajaepnfgnaaOp
import Derived.Test.YtoddajaepnfgnaaLi
import Derived.ChangeSlices
namespace Go.Proofs.Ytoddajaepnfgnaa
set_option maxRecDepth 16000
open Go Go.ChangeShapes Go.WideShapes Go.RowKit

section
variable {H : Type} {enc : TypeId × Value → H} {w : World} {base : Nat} {sp : Nat → Bool} {hd : Bool}

theorem open_values {r : Reach} {b0 : Nat} {v : Value} {d : DataW H} {ps : List MemPlace} (hval : Value.okWide Try.prog w r b0 24 v) (h : DataW.Trod enc Try.prog w base sp hd 24 v d ps) (hw : ∀ n ∈ d.weights Try.prog 24, n ≤ reachBytes) :
    ∃ (a : Option Addr) (c : Nat) (l : List V), v = .slice a l.length c ∧ l.length ≤ c ∧ c ≤ 9223372036854775807 ∧ (a = none → c = 0) ∧ l.length * 64 ≤ reachBytes ∧ LIn (fun _ => True) w a l := by
  obtain ⟨a, len, cap, rfl⟩ := okWide_slice Try.underlying24 hval
  obtain ⟨fuel, h4⟩ := h
  rcases DataW.trod_slice Try.underlying24 h4 with ⟨e4, _⟩ | ⟨a, len, cap, elems, rest, m, rfl, e4, e5, _, hlc, hcm, hel, hat, _, _⟩
  · simp [Value.cells] at e4
    obtain ⟨rfl, rfl, rfl⟩ := e4
    exact ⟨none, 0, [], rfl, by decide, by decide, fun _ => rfl, by decide, .inl rfl⟩
  · simp only [Value.cells, List.cons.injEq, and_true, Value.slice.injEq] at e4
    obtain ⟨rfl, rfl, rfl⟩ := e4
    simp only [Prod.mk.injEq] at e5
    obtain ⟨rfl, _⟩ := e5
    simp only [DataW.weights, Try.underlying24] at hw
    have hsz := hw _ (List.mem_cons_self ..)
    rw [show Try.prog.bytesOf 26 = 64 by kernel_rfl, List.length_map] at hsz
    rw [show Try.prog.cellsOf 26 = 5 by kernel_rfl] at hat
    have hlr : len * 64 ≤ reachBytes := by
      have : len * 64 ≤ (elems.length + (rest.map (·.1)).length) * 64 := Nat.mul_le_mul_right _ (by omega)
      omega
    have hcm' : cap ≤ 9223372036854775807 := hcm
    by_cases hz : len = 0
    · subst hz
      exact ⟨some a, cap, [], rfl, by simp, hcm', (fun e => by cases e), by decide, .inl rfl⟩
    · obtain ⟨b, o, spot⟩ := a
      have hone : ∀ j (hj : j < len), ∃ cs', w.cells? base ((⟨b, o, spot⟩ : Addr).add (j * 5)) 5 = some cs' ∧ DataW.trod enc Try.prog w base sp hd m 26 cs' = some (elems[j]'(by omega)) := fun j hj => by
        have := hat j hj
        rw [List.getElem?_eq_getElem (by omega)] at this
        exact Option.bind_eq_some_iff.1 this
      have hspot : spot = none := by
        obtain ⟨cs', hc, _⟩ := hone 0 (by omega)
        obtain ⟨_, hl5, hcell⟩ := World.cells?_some hc
        have := hcell 0 (by omega)
        rw [List.getElem?_eq_getElem (by omega)] at this
        simpa [Addr.add] using World.cell?_spot this
      subst hspot
      obtain ⟨l, hl, he⟩ := build_list (w := w) (D := fun _ => True) (b := b) trivial len o (fun j hj => by
        obtain ⟨cs', hc, ht⟩ := hone j hj
        obtain ⟨t, sl, rfl, hv⟩ := open_val m cs' _ ht (fun q hq => hw q (List.mem_cons_of_mem _ (List.mem_append_left _ (weights_all (List.mem_map_of_mem (List.getElem_mem (by omega))) q hq))))
        obtain ⟨_, _, hcell⟩ := World.cells?_some hc
        rw [addr_add] at hcell
        have g0 := hcell 0 (by omega)
        have g1 := hcell 1 (by omega)
        have g2 := hcell 2 (by omega)
        have g3 := hcell 3 (by omega)
        have g4 := hcell 4 (by omega)
        rw [addr_add] at g0 g1 g2 g3 g4
        exact ⟨t, sl, ⟨g0, g1, g2, g3, g4⟩, hv⟩)
      subst hl
      exact ⟨some ⟨b, o, none⟩, cap, l, rfl, hlc, hcm', (fun e => by cases e), hlr, .inr ⟨b, o, rfl, he⟩⟩
end
end Go.Proofs.Ytoddajaepnfgnaa
