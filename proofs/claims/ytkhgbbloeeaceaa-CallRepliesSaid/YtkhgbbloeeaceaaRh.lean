/- WireReads: the walk. -/
import Derived.Test.YtkhgbbloeeaceaaLb
import Derived.Test.YtkhgbbloeeaceaaSm
namespace Go.Proofs.Ytkhgbbloeeaceaa
open Go Go.RowKit
set_option maxRecDepth 16000
attribute [local go_sem ↓] run_store_float

theorem bits_u8 (o : BinOp) (a b : Int) (h : ∃ r : Int, bits o .u8 a b = IntKind.u8.wrap r) : 0 ≤ bits o .u8 a b ∧ bits o .u8 a b ≤ 255 := by
  obtain ⟨r, hr⟩ := h
  rw [hr]
  simp [IntKind.wrap, IntKind.signed, IntKind.bits]
  omega
/-- A byte of the call's own is stored. -/
theorem Own.cell {w : World} {base g n cap : Nat} {zs : List Int} (h : Own w base (.slice (some ⟨g, 0, none⟩) n cap) zs) : n = zs.length ∧ (∀ j (hj : j < zs.length), w.cell? ⟨g, j, none⟩ = some (.int .u8 zs[j])) ∧ (∀ j, w.frozen? ⟨g, j, none⟩ = false) ∧ base ≤ g ∧ g < w.heap.size ∧ zs.length ≤ cap := by
  have h' := h
  rcases h with ⟨_, ⟨h1, _⟩ | ⟨g', cap', cur, h1, hb, hg, hn, _⟩⟩
  · cases h1
  · simp only [Value.slice.injEq, Option.some.injEq, Addr.mk.injEq] at h1
    obtain ⟨⟨rfl, _⟩, rfl, rfl⟩ := h1
    refine ⟨rfl, fun j hj => ?_, fun j => by simp [World.frozen?, hg], hb, (Array.getElem?_eq_some_iff.1 hg).1, hn⟩
    have := World.ownsRow.cells h' (g := g) rfl j (.int .u8 zs[j]) (by simp [u8s, List.getElem?_eq_getElem hj])
    rw [addr_add] at this
    simpa using this
theorem Own.store {w : World} {base g n cap : Nat} {zs : List Int} (h : Own w base (.slice (some ⟨g, 0, none⟩) n cap) zs) (hz : Byt zs) (i : Nat) (hi : i < zs.length) {y : Int} (hy : 0 ≤ y ∧ y ≤ 255) : BIn (w.setCell ⟨g, i, none⟩ (.int .u8 y)) (some ⟨g, 0, none⟩) (zs.set i y) := by
  obtain ⟨_, hc, _⟩ := h.cell
  intro j hj0
  have hj : j < zs.length := by simpa using hj0
  refine ⟨g, 0, rfl, ?_, ?_⟩
  · rw [Nat.zero_add]
    by_cases e : j = i
    · subst e
      rw [World.cell?_setCell_same _ _ _ (hc j hj)]
      simp
    · rw [World.cell?_setCell_other _ _ _ _ (by intro e2; simp only [Addr.mk.injEq] at e2; exact e e2.2.1.symm), hc j hj, List.getElem_set_ne (fun e2 => e e2.symm)]
  · rw [List.getElem_set]
    split
    · exact hy
    · exact hz _ (List.getElem_mem hj)
theorem Own.form {w base sl zs} (h : Own w base sl zs) (h0 : 0 < zs.length) : ∃ g cap, sl = .slice (some ⟨g, 0, none⟩) zs.length cap ∧ zs.length ≤ cap ∧ cap ≤ 9223372036854775807 := by
  rcases h with ⟨_, ⟨_, h2⟩ | ⟨g, cap, cur, h1, _, _, h2, h3, _⟩⟩
  · omega
  · exact ⟨g, cap, h1, h2, by unfold maxLen at h3; omega⟩
theorem BIn.take {w a zs} (h : BIn w a zs) (n : Nat) : BIn w a (zs.take n) := by
  intro j hj
  obtain ⟨b, o, e, hc, h0⟩ := h j (by simp at hj; omega)
  exact ⟨b, o, e, by rw [List.getElem_take]; exact hc, by rw [List.getElem_take]; exact h0⟩
end Go.Proofs.Ytkhgbbloeeaceaa
