/- Numbers put, by the program. -/
import Derived.Test.YtkhgbbloeeaceaaPw
namespace Go.Proofs.Ytkhgbbloeeaceaa
open Go Go.RowKit
set_option maxRecDepth 16000

theorem putU2_c (base : Nat) (a : Option Addr) (c : Nat) (zs : List Int) (v : Nat) (hv : v < 2 ^ 64) (n : Int) (w : World) (hz : BIn w a zs) (hc : a = none → c = 0) (hlc : zs.length ≤ c) (hbase : base ≤ w.heap.size) (hl : zs.length ≤ 140737488355000) :
    Calls Try.prog 49 #[.slice a zs.length c, .int .u64 v, .int .i64 n] w (RetN w base (zs ++ beB v (nOf n))) := by
  have HZ := Lib.hid hz
  clear hz
  rcases (show (n < 0 ∧ nOf n = 0) ∨ (8 < n ∧ nOf n = 8) ∨ ((0 ≤ n ∧ n ≤ 8) ∧ nOf n = n.toNat) by unfold nOf; split; omega; split <;> omega) with ⟨h, e⟩ | ⟨h, e⟩ | ⟨h, e⟩
  all_goals
    obtain ⟨N, hN⟩ : ∃ N, N = nOf n := ⟨_, rfl⟩
    rw [← hN] at e ⊢
    have hN8 : N ≤ 8 := by omega
    clear hN
    have HE := Lib.hid e
    clear e
    go_enter Try.func49, Try.ntmps49
    go_wp2_with fail
    refine (clone_c base a c zs _ HZ.out hc hlc hbase (by omega)).mono ?_
    rintro e w1 ⟨sl, rfl, hb1, hbel, hat⟩
    have HB := Lib.hid hb1
    have HF := Lib.hid (And.intro hbel hat)
    have hbase1 : base ≤ w1.heap.size := Nat.le_trans hbase hbel.size
    clear hb1 hbel hat
    go_wp2_with fail
    go_loopw [7, 8] (fun b j wr => ∃ (k : Nat) (pre : List Int), k ≤ N ∧ j = .int .i64 ((k : Int) - 1) ∧ pre ++ beB v k = beB v N ∧ Ap w1 wr base sl b (zs ++ pre)) (fun _ j _ => (intOf j + 1).toNat)
    case atStart => exact ⟨N, [], Nat.le_refl _, by (have := HE.out); congr 1; omega, rfl, by rw [List.append_nil]; exact Ap.refl (.inl HB.out)⟩
    case round =>
      obtain ⟨k, pre, hk, rfl, hpre, hap⟩ := hrel
      have HA := Lib.hid hap
      have HP := Lib.hid hpre
      clear hap hpre
      cases k with
      | zero =>
        go_wp2_with fail
        go_ret
        have := HP.out
        rw [beB, List.append_nil] at this
        refine ⟨_, rfl, by rw [← this]; exact HA.out.ow ⟨_, HB.out⟩, HF.out.1.grown HA.out.grew HF.out.1.size (fun k hk => HF.out.2 k (obk_some.1 hk).1), fun k hk => ?_⟩
        rcases HA.out.at_ k hk with e | e
        · exact HF.out.2 k e
        · exact Nat.le_trans HF.out.1.size e
      | succ k =>
        have hk1 : ((k + 1 : Nat) : Int) - 1 = k := by omega
        rw [hk1]
        have hpl : (zs ++ pre).length + 1 ≤ 140737488355328 := by
          have := congrArg List.length HP.out
          rw [List.length_append, beB_length, beB_length] at this
          rw [List.length_append]; omega
        have hba : base ≤ wr.heap.size + 1 := by have := HA.out.grew.size; omega
        have HBA := Lib.hid (And.intro hpl hba)
        clear hpl hba
        go_wp2_with (at_builtin; (refine wpList_append_bs _ rfl _ _ rfl base u7 (zs ++ pre) [(v : Int) / 2 ^ (8 * k) % 256] rfl (HA.out.below ((Below.refl _ _).alloc (Nat.le_refl _) _)).bs ⟨wr.heap.size, 0, none⟩ 1 1 rfl rfl (World.news_of_block (heap_alloc_new wr _)) (by decide) HBA.out.1 (by simpa using HBA.out.2) ?_; intro g cap w2 hap2))
        go_roundw
        case rel =>
          refine ⟨k, pre ++ [(v : Int) / 2 ^ (8 * k) % 256], by omega, rfl, ?_, ?_⟩
          · rw [← HP.out, beB, List.append_assoc]
            rw [byte_eq]
            rfl
          · rw [List.length_append] at hap2
            rw [← List.append_assoc]
            exact (HA.out.below ((Below.refl _ _).alloc (Nat.le_refl _) _)).trans hap2
        case measure => (simp [intOf] <;> omega)
end Go.Proofs.Ytkhgbbloeeaceaa
