/- Arguments opened: a slice of bytes. -/
import Derived.Test.YtkhgbbloeeaceaaOp
import Derived.ChangeSlices
namespace Go.Proofs.Ytkhgbbloeeaceaa
set_option maxRecDepth 16000
open Go Go.ChangeShapes Go.WideShapes Go.RowKit

section
variable {H : Type} {enc : TypeId × Value → H} {w : World} {base : Nat} {sp : Nat → Bool} {hd : Bool}

/-- The bytes zs lie from a on. -/
def BIn (w : World) (a : Option Addr) (zs : List Int) : Prop := ∀ j (hj : j < zs.length), ∃ b o, a = some ⟨b, o, none⟩ ∧ w.cell? ⟨b, o + j, none⟩ = some (.int .u8 zs[j]) ∧ 0 ≤ zs[j] ∧ zs[j] ≤ 255

theorem open_bytes {r : Reach} {b0 : Nat} {v : Value} {d : DataW H} {ps : List MemPlace} (hval : Value.okWide Try.prog w r b0 22 v) (h : DataW.Trod enc Try.prog w base sp hd 22 v d ps) :
    ∃ (a : Option Addr) (c : Nat) (zs : List Int), v = .slice a zs.length c ∧ zs.length ≤ c ∧ c ≤ 9223372036854775807 ∧ (a = none → c = 0) ∧ BIn w a zs ∧ ∀ p, a = some p → p.block < w.heap.size := by
  obtain ⟨a, len, cap, rfl⟩ := okWide_slice Try.underlying22 hval
  have hlt : ∀ p, a = some p → p.block < w.heap.size := by
    rintro p rfl
    simp only [Value.okWide, Try.underlying22, Cell.okWide, Cell.ok] at hval
    obtain ⟨_, _, _, _, row, cells, hs, _⟩ := hval
    unfold World.shape? at hs
    rcases Nat.lt_or_ge p.block w.heap.size with h | h
    · exact h
    · rw [Array.getElem?_eq_none h] at hs; cases hs
  obtain ⟨fuel, hf⟩ := h
  rcases open_ints Try.underlying22 Try.underlying5 (by kernel_rfl) hf with ⟨hcs, _⟩ | ⟨a', len', cap', zs, hcs, _, hl, hm, hz, _, hcell, hwz⟩
  · simp [Value.cells] at hcs
    obtain ⟨rfl, rfl, rfl⟩ := hcs
    exact ⟨none, 0, [], rfl, by decide, by decide, fun _ => rfl, (fun j hj => by simp at hj), hlt⟩
  · simp [Value.cells] at hcs
    obtain ⟨rfl, rfl, rfl⟩ := hcs
    have hlz : len ≤ zs.length := by rw [hz]; split <;> omega
    have hlen : (zs.take len).length = len := by simp; omega
    refine ⟨some a', cap, zs.take len, by rw [hlen], by omega, hm, (fun e => (by cases e)), (fun j hj => ?_), hlt⟩
    have hj1 : j < len := by omega
    have hc := hcell j (by omega)
    obtain ⟨b, o, spot⟩ := a'
    have hspot : spot = none := by
      have h0 := hcell 0 (by omega)
      simpa [Addr.add] using World.cell?_spot h0
    subst hspot
    have hmem : zs[j]'(by omega) ∈ zs := List.getElem_mem (by omega)
    have hb := hwz _ hmem
    simp [Lit.wf, IntKind.min, IntKind.max, IntKind.signed, IntKind.bits] at hb
    rw [addr_add, List.getD_eq_getElem?_getD, List.getElem?_eq_getElem (by omega)] at hc
    refine ⟨b, o, rfl, ?_, ?_, ?_⟩
    · rw [List.getElem_take]; simpa using hc
    · rw [List.getElem_take]; omega
    · rw [List.getElem_take]; omega
end
end Go.Proofs.Ytkhgbbloeeaceaa
