/- Numbers put: by the reference. -/
import Derived.Test.YtkhgbbloeeaceaaBs
import Derived.Test.YtkhgbbloeeaceaaWa
import Derived.Deep.LoopGhost
namespace Go.Proofs.Ytkhgbbloeeaceaa
open Go Go.RowKit
set_option maxRecDepth 16000

/-- A number's last k bytes, the greatest first. -/
def beB (v : Nat) : Nat → List Int
  | 0 => []
  | k + 1 => ((v / 256 ^ k % 256 : Nat) : Int) :: beB v k
def nOf (n : Int) : Nat := if n < 0 then 0 else if 8 < n then 8 else n.toNat

/-- Bytes come back. -/
def RetB (w : World) (base : Nat) (sl : Value) (zs : List Int) (e : Ending) (w' : World) : Prop := ∃ sl', e = .returned sl' ∧ Ap w w' base sl sl' zs
theorem beB_length (v : Nat) : ∀ k, (beB v k).length = k
  | 0 => rfl
  | k + 1 => by rw [beB, List.length_cons, beB_length v k]

theorem byte_eq (v k : Nat) : (v : Int) / 2 ^ (8 * k) % 256 = ((v / 256 ^ k % 256 : Nat) : Int) := by
  have : (256 : Nat) ^ k = 2 ^ (8 * k) := by rw [Nat.pow_mul]
  rw [this]; simp

theorem putU1_c (base : Nat) (sl : Value) (zs : List Int) (v : Nat) (hv : v < 2 ^ 64) (n : Int) (w : World) (hb : Bs w base sl zs) (hbase : base ≤ w.heap.size) (hl : zs.length ≤ 140737488355000) :
    Calls Try.prog 51 #[sl, .int .u64 v, .int .i64 n] w (RetB w base sl (zs ++ beB v (nOf n))) := by
  have HB := Lib.hid hb
  clear hb
  rcases (show (n < 0 ∧ nOf n = 0) ∨ (8 < n ∧ nOf n = 8) ∨ ((0 ≤ n ∧ n ≤ 8) ∧ nOf n = n.toNat) by unfold nOf; split; omega; split <;> omega) with ⟨h, e⟩ | ⟨h, e⟩ | ⟨h, e⟩
  all_goals
    obtain ⟨N, hN⟩ : ∃ N, N = nOf n := ⟨_, rfl⟩
    rw [← hN] at e ⊢
    have hN8 : N ≤ 8 := by omega
    clear hN
    have HE := Lib.hid e
    clear e
    go_enter Try.func51, Try.ntmps51
    go_wp2_with fail
    go_loopw [0, 7] (fun b j wr => ∃ (k : Nat) (pre : List Int), k ≤ N ∧ j = .int .i64 ((k : Int) - 1) ∧ pre ++ beB v k = beB v N ∧ Ap w wr base sl b (zs ++ pre)) (fun _ j _ => (intOf j + 1).toNat)
    case atStart => exact ⟨N, [], Nat.le_refl _, by (have := HE.out); congr 1; omega, rfl, by rw [List.append_nil]; exact Ap.refl HB.out⟩
    case round =>
      obtain ⟨k, pre, hk, rfl, hpre, hap⟩ := hrel
      have HA := Lib.hid hap
      have HP := Lib.hid hpre
      clear hap hpre
      cases k with
      | zero =>
        go_wp2_with fail
        go_ret
        have := HP.out
        rw [beB, List.append_nil] at this
        exact ⟨_, rfl, by rw [← this]; exact HA.out⟩
      | succ k =>
        have hk1 : ((k + 1 : Nat) : Int) - 1 = k := by omega
        rw [hk1]
        have hpl : (zs ++ pre).length + 1 ≤ 140737488355328 := by
          have := congrArg List.length HP.out
          rw [List.length_append, beB_length, beB_length] at this
          rw [List.length_append]; omega
        have hba : base ≤ wr.heap.size + 1 := by have := HA.out.grew.size; omega
        have HBA := Lib.hid (And.intro hpl hba)
        clear hpl hba
        go_wp2_with (at_builtin; (refine wpList_append_bs _ rfl _ _ rfl base u0 (zs ++ pre) [(v : Int) / 2 ^ (8 * k) % 256] rfl (HA.out.below ((Below.refl _ _).alloc (Nat.le_refl _) _)).bs ⟨wr.heap.size, 0, none⟩ 1 1 rfl rfl (World.news_of_block (heap_alloc_new wr _)) (by decide) HBA.out.1 (by simpa using HBA.out.2) ?_; intro g cap w2 hap2))
        go_roundw
        case rel =>
          refine ⟨k, pre ++ [(v : Int) / 2 ^ (8 * k) % 256], by omega, rfl, ?_, ?_⟩
          · rw [← HP.out, beB, List.append_assoc]
            rw [byte_eq]
            rfl
          · rw [List.length_append] at hap2
            rw [← List.append_assoc]
            exact (HA.out.below ((Below.refl _ _).alloc (Nat.le_refl _) _)).trans hap2
        case measure => (simp [intOf] <;> omega)
end Go.Proofs.Ytkhgbbloeeaceaa
