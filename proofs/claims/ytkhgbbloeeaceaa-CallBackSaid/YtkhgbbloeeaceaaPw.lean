/- Numbers put: by the program. -/
import Derived.Test.YtkhgbbloeeaceaaPu
import Derived.Lib.LazyBuf
namespace Go.Proofs.Ytkhgbbloeeaceaa
open Go Go.RowKit
set_option maxRecDepth 16000

/-- A fresh copy comes back. -/
def RetN (w : World) (base : Nat) (zs : List Int) (e : Ending) (w' : World) : Prop :=
  ∃ sl', e = .returned sl' ∧ Own w' base sl' zs ∧ Below w.heap.size w w' ∧ ∀ k, sl'.ownBlock = some k → w.heap.size ≤ k

theorem own_empty {w : World} {base : Nat} (hbase : base ≤ w.heap.size) : Own (w.alloc (.cells #[] 5)) base (.slice (some ⟨w.heap.size, 0, none⟩) 0 0) [] :=
  ⟨rfl, .inr ⟨w.heap.size, 0, #[], rfl, hbase, heap_alloc_new w _, Nat.le_refl _, by decide, rfl, rfl⟩⟩
theorem clone_c (base : Nat) (a : Option Addr) (c : Nat) (zs : List Int) (w : World) (hz : BIn w a zs) (hc : a = none → c = 0) (hlc : zs.length ≤ c) (hbase : base ≤ w.heap.size) (hl : zs.length ≤ 140737488355328) :
    Calls Try.prog 71 #[.slice a zs.length c] w (RetN w base zs) := by
  have HZ := Lib.hid hz
  clear hz
  cases a with
  | none =>
    obtain rfl := hc rfl
    have h0 : zs = [] := List.eq_nil_of_length_eq_zero (by omega)
    subst h0
    have heq := fun w : World => Go.run_eql_slice_nil (P := Try.prog) w 22 5 none 0 0 Try.underlying22
    simp only [List.length_nil]
    go_enter Try.func71, Try.ntmps71
    go_wp2_with fail
    go_ret
    exact ⟨_, rfl, World.ownsRow_nil _ _ _ _, Below.refl _ _, fun k h => by cases h⟩
  | some b =>
    have heq := fun w : World => Go.run_eql_slice_nil (P := Try.prog) w 22 5 (some b) zs.length c Try.underlying22
    by_cases h0 : zs = []
    · subst h0
      simp only [List.length_nil] at heq ⊢
      go_enter Try.func71, Try.ntmps71
      go_wp2_with fail
      go_ret
      exact ⟨_, rfl, own_empty hbase, (Below.refl _ _).alloc (Nat.le_refl _) _, fun k h => Nat.le_of_eq (by simpa [Value.ownBlock] using h)⟩
    · have hpos : 0 < zs.length := List.length_pos_iff.2 h0
      have HB := Lib.hid (show Bs (w.alloc (.cells #[] 5)) base (.slice (some ⟨w.heap.size, 0, none⟩) 0 0) [] from .inr ⟨_, rfl, (fun j hj => by cases hj), fun p hp => (by obtain rfl := Option.some.inj hp; simp)⟩)
      have HC := Lib.hid (HZ.out.below ((Below.refl _ _).alloc (Nat.le_refl _) (.cells #[] 5))).cells
      have HS := Lib.hid (show ([] : List Int).length + zs.length ≤ 140737488355328 ∧ base ≤ w.heap.size + 1 by simp; omega)
      go_enter Try.func71, Try.ntmps71
      go_wp2_with (at_builtin; (refine wpList_append_bs _ rfl _ _ rfl base (.slice (some ⟨w.heap.size, 0, none⟩) 0 0) [] zs rfl HB.out b zs.length c rfl rfl (HC.out b rfl) hpos HS.out.1 (by simpa using HS.out.2) ?_; intro g cap w2 hap2))
      go_ret
      have := hap2
      refine ⟨_, rfl, ?_, (((Below.refl _ _).alloc (Nat.le_refl _) _).grown hap2.grew (by simp) (fun k hk => Nat.le_of_eq (by simpa [Value.ownBlock] using (obk_some.1 hk).1))), fun k hk => ?_⟩
      · simpa using hap2.ow ⟨[], own_empty hbase⟩
      · rcases hap2.at_ k (by simpa using hk) with e | e
        · exact Nat.le_of_eq (by simpa [Value.ownBlock] using e)
        · exact Nat.le_trans (by simp) e
end Go.Proofs.Ytkhgbbloeeaceaa
