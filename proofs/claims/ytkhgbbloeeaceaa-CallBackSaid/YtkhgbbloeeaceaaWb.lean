/- Numbers read, by the program. -/
import Derived.Test.YtkhgbbloeeaceaaWa
namespace Go.Proofs.Ytkhgbbloeeaceaa
open Go Go.RowKit
set_option maxRecDepth 16000

theorem readU2_c (a : Option Addr) (c : Nat) (zs : List Int) (n : Int) (w : World) (hl : zs.length ≤ c ∧ c ≤ 9223372036854775807) (hz : BIn w a zs) :
    Calls Try.prog 65 #[.slice a zs.length c, .int .i64 n] w fun e w' => e = .returned (.tuple #[.int .u64 (readU zs n).1, .bool (readU zs n).2]) ∧ w = w' := by
  have HZ := Lib.hid hz
  have HA : Hid (∀ m : Nat, (m : Int) < 8 → beN (zs.take m) < 72057594037927936) := Lib.hid fun m hm => by
    have h := beN_lt (zs.take m) (fun c hc => by
      obtain ⟨j, hj, rfl⟩ := List.getElem_of_mem (List.mem_of_mem_take hc)
      obtain ⟨_, _, _, _, h0, h1⟩ := hz j hj
      exact ⟨h0, h1⟩) 0
    refine Nat.lt_of_lt_of_le h ?_
    have : (zs.take m).length ≤ 7 := by simp; omega
    exact Nat.le_trans (Nat.mul_le_mul_left _ (Nat.pow_le_pow_right (by decide) this)) (by decide)
  clear hz
  generalize hr : readU zs n = r
  have HR := Lib.hid hr.symm
  clear hr
  by_cases h1 : n < 0
  · go_enter Try.func65, Try.ntmps65
    go_wp2_with fail
    refine bodyPost_ret (v := .tuple #[.int .u64 r.1, .bool r.2]) ?_ rfl ⟨rfl, rfl⟩
    rw [HR.out]
    simp [readU, h1, results, Try.results65, go_sem]
  by_cases h2 : 8 < n
  · go_enter Try.func65, Try.ntmps65
    go_wp2_with fail
    refine bodyPost_ret (v := .tuple #[.int .u64 r.1, .bool r.2]) ?_ rfl ⟨rfl, rfl⟩
    rw [HR.out]
    simp [readU, h2, results, Try.results65, go_sem]
  by_cases h3 : (zs.length : Int) < n
  · go_enter Try.func65, Try.ntmps65
    go_wp2_with fail
    refine bodyPost_ret (v := .tuple #[.int .u64 r.1, .bool r.2]) ?_ rfl ⟨rfl, rfl⟩
    rw [HR.out]
    simp [readU, h3, results, Try.results65, go_sem]
  · obtain ⟨N, rfl⟩ : ∃ N : Nat, n = N := ⟨n.toNat, by omega⟩
    have hNc : (N : Int) ≤ c := by omega
    have hNl : (N : Int) ≤ zs.length := by omega
    go_enter Try.func65, Try.ntmps65
    go_wp2_with fail
    go_loopw [6, 25] (fun v j wr => ∃ m : Nat, m ≤ N ∧ v = .int .u64 (beN (zs.take m)) ∧ j = .int .i64 m ∧ wr = w) (fun _ j _ => N - (intOf j).toNat)
    case atStart => exact ⟨0, by omega, rfl, rfl, rfl⟩
    case round =>
      obtain ⟨m, hm, rfl, rfl, rfl⟩ := hrel
      by_cases hlt : m < N
      · have hmz : m < zs.length := by omega
        obtain ⟨b, o, rfl, cz, z0, z1⟩ := HZ.out m hmz
        have hi1 : (m : Int) < zs.length := by omega
        have hlt' : (m : Int) < N := by omega
        go_wp2_with fail
        go_roundw
        case rel =>
          refine ⟨m + 1, by omega, ?_, by go_num, trivial⟩
          rw [beN_take hmz, or_step (HA.out m (by omega)) z0 z1]
        case measure => simp [intOf]; omega
      · have hm' : m = N := by omega
        go_wp2_with fail
        refine bodyPost_ret (v := .tuple #[.int .u64 r.1, .bool r.2]) ?_ rfl ⟨rfl, rfl⟩
        rw [HR.out, show readU zs (N : Int) = (beN (zs.take N), true) by unfold readU; rw [if_neg (by omega)]; rfl]
        simp [hm', results, Try.results65, go_sem]
end Go.Proofs.Ytkhgbbloeeaceaa
