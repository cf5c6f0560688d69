/- Values made: of a number, a float, a text. Sizes, depths. -/
import Derived.Test.YtkhgbbloeeaceaaB
import Derived.Deep.RegionHeld3
import Derived.Deep.LoopGhost
namespace Go.Proofs.Ytkhgbbloeeaceaa
open Go Go.RowKit
set_option maxRecDepth 16000

theorem run_store_float {P : Program} {w : World} {a : Addr} {m : Mode} (k : FloatKind) (n : Nat) : (store a (.float k n) m).run P w = stored P w a (.float k n) m := run_store P w a _ m rfl
attribute [local go_sem ↓] run_store_float

theorem float_c (f : Nat) (w : World) : Calls Try.prog 22 #[.float .f64 f] w fun e w' => e = .returned (.agg #[.int .i64 2, .int .i64 0, .float .f64 (canonN f), .string ⟨#[]⟩, .slice none 0 0]) ∧ Below w.heap.size w w' := by
  go_enter Try.func22, Try.ntmps22
  go_wp2_with (go_at_call 54; refine (canon1_c _ _).mono ?_; rintro e w' ⟨rfl, rfl⟩)
  refine bodyPost_ret (v := .agg #[.int .i64 2, .int .i64 0, .float .f64 (canonN f), .string ⟨#[]⟩, .slice none 0 0]) (by simp [results, Try.results22, go_sem]) rfl ⟨rfl, ?_⟩
  exact ((Below.refl _ _).alloc (Nat.le_refl _) _)

theorem int_c (n : Int) (w : World) : Calls Try.prog 25 #[.int .i64 n] w fun e w' => e = .returned (.agg #[.int .i64 1, .int .i64 n, .float .f64 0, .string ⟨#[]⟩, .slice none 0 0]) ∧ Below w.heap.size w w' := by
  go_enter Try.func25, Try.ntmps25
  go_wp2
  refine bodyPost_ret (v := .agg #[.int .i64 1, .int .i64 n, .float .f64 0, .string ⟨#[]⟩, .slice none 0 0]) (by simp [results, Try.results25, go_sem]) rfl ⟨rfl, ?_⟩
  exact ((Below.refl _ _).alloc (Nat.le_refl _) _)

theorem text_c (s : ByteArray) (w : World) : Calls Try.prog 52 #[.string s] w fun e w' => e = .returned (.agg #[.int .i64 3, .int .i64 0, .float .f64 0, .string s, .slice none 0 0]) ∧ Below w.heap.size w w' := by
  go_enter Try.func52, Try.ntmps52
  go_wp2
  refine bodyPost_ret (v := .agg #[.int .i64 3, .int .i64 0, .float .f64 0, .string s, .slice none 0 0]) (by simp [results, Try.results52, go_sem]) rfl ⟨rfl, ?_⟩
  exact ((Below.refl _ _).alloc (Nat.le_refl _) _)

/-! Sizes. -/
theorem size_c (t : V) : ∀ (w : World) (sl : Value) (D : Nat → Prop), VIn D w t sl →
    Calls Try.prog 47 #[.agg #[.int .i64 t.k, .int .i64 t.i, .float .f64 t.f, .string t.s, sl]] w fun e w' => e = .returned (.int .i64 (wrap64 t.size)) ∧ Below w.heap.size w w' := by
  induction t using V.induct with
  | h k i f s l ih =>
  intro w sl D hv
  obtain ⟨wk, wi, wf, ws, wl, hsl⟩ := hv.parts
  simp only [V.k_mk, V.i_mk, V.f_mk, V.s_mk, V.size_mk]
  have hb : ∀ o, Below w.heap.size w (w.alloc o) := fun o => (Below.refl _ _).alloc (Nat.le_refl _) _
  by_cases k4 : k = 4
  · subst k4
    simp only [show ¬((4 : Int) = 1 ∨ (4 : Int) = 2) by omega, show ¬((4 : Int) = 3) by omega, if_false, if_true]
    have IH := Lib.hid ih
    have WK := Lib.hid wk
    have WI := Lib.hid wi
    clear ih hv wk wi wf ws
    obtain ⟨a, c, rfl, hlc, hcm, _, he⟩ := hsl
    go_enter Try.func47, Try.ntmps47
    go_wp2_with fail
    go_loopw [3, 4] (fun n j wr => ∃ m : Nat, m ≤ l.length ∧ j = .int .i64 m ∧ n = .int .i64 (wrap64 (2 + V.sizes (l.take m))) ∧ Below w.heap.size w wr ∧ w.heap.size < wr.heap.size ∧ wr.cell? ⟨w.heap.size, 4, none⟩ = some (.slice a l.length c)) (fun _ i _ => l.length - (intOf i).toNat)
    case atStart => exact ⟨0, by omega, rfl, by simp [wrap64], hb _, by simp, by simp⟩
    case round =>
      obtain ⟨m, hm, rfl, rfl, hb, hz, hc⟩ := hrel
      by_cases hlt : m < l.length
      · obtain ⟨b, o, rfl, he1⟩ := he.resolve_left (fun e => by simp [e] at hlt)
        have HE := Lib.hid (he1.keep (D' := D) (w' := wr) (fun b _ h => hb.block b h) (fun _ h _ => h))
        obtain ⟨hD, sa, sc, c0, c1, c2, c3, c4, hv⟩ := HE.out.get hlt
        have HV := Lib.hid hv
        have HB := Lib.hid hb
        clear hv hb
        go_wp2_with fail
        refine (IH.out _ (List.getElem_mem _) _ _ _ HV.out).mono ?_
        rintro e w1 ⟨rfl, hb1⟩
        have hc1 := (hb1.cell (p := ⟨w.heap.size, 4, none⟩) hz).trans hc
        have hz1 : w.heap.size < w1.heap.size := Nat.lt_of_lt_of_le hz hb1.size
        have HB1 := Lib.hid (HB.out.trans (hb1.mono (Nat.le_of_lt hz)))
        clear hb1 hc
        have HS := Lib.hid (V.sizes_take l m hlt)
        go_wp2_with fail
        go_roundw
        case rel => exact ⟨m + 1, by omega, by go_num, by rw [HS.out]; simp [wrap64]; omega, HB1.out, hz1, hc1⟩
        case measure => simp [intOf]; omega
      · have hm' : m = l.length := by omega
        subst hm'
        go_wp2_with fail
        go_ret
        exact ⟨by simp, hb⟩
  · rw [if_neg (show ¬ k = 4 from k4)]
    have WK := Lib.hid wk
    have WI := Lib.hid wi
    clear ih hv wk wi hsl
    by_cases k12 : k = 1 ∨ k = 2
    · rw [if_pos k12]
      rcases k12 with rfl | rfl
      all_goals
        go_enter Try.func47, Try.ntmps47
        go_wp2_with fail
        go_ret
        exact ⟨ret_int (by simp [wrap64]), hb _⟩
    · rw [if_neg k12]
      by_cases k3 : k = 3
      · subst k3
        go_enter Try.func47, Try.ntmps47
        go_wp2_with fail
        go_ret
        exact ⟨ret_int (by simp [wrap64]; omega), hb _⟩
      · rw [if_neg k3]
        go_enter Try.func47, Try.ntmps47
        go_wp2_with fail
        go_ret
        exact ⟨ret_int (by simp [wrap64]), hb _⟩

end Go.Proofs.Ytkhgbbloeeaceaa
