/- Depths; light values; orders. -/
import Derived.Test.YtkhgbbloeeaceaaC
import Derived.Deep.DeepMust
namespace Go.Proofs.Ytkhgbbloeeaceaa
open Go Go.RowKit
set_option maxRecDepth 16000

theorem deep_c (t : V) : ∀ (n : Int) (w : World) (sl : Value) (D : Nat → Prop), 0 ≤ n → n ≤ 1000 → VIn D w t sl →
    Calls Try.prog 46 #[.agg #[.int .i64 t.k, .int .i64 t.i, .float .f64 t.f, .string t.s, sl], .int .i64 n] w fun e w' => e = .returned (.bool (t.deep n.toNat)) ∧ Below w.heap.size w w' := by
  induction t using V.induct with
  | h k i f s l ih =>
  intro n w sl D h0n hn hv
  obtain ⟨wk, wi, wf, ws, wl, hsl⟩ := hv.parts
  simp only [V.k_mk, V.i_mk, V.f_mk, V.s_mk, V.deep_mk, V.deeps_any]
  have hb : ∀ o, Below w.heap.size w (w.alloc o) := fun o => (Below.refl _ _).alloc (Nat.le_refl _) _
  have WK := Lib.hid wk
  have WI := Lib.hid wi
  have IH := Lib.hid ih
  clear ih hv wk wi wf ws
  by_cases k4 : k = 4
  · subst k4
    simp only [if_true]
    by_cases n0 : n = 0
    · subst n0
      clear hsl
      go_enter Try.func46, Try.ntmps46
      go_wp2_with fail
      go_ret
      exact ⟨rfl, hb _⟩
    · rw [if_neg (show ¬ n.toNat = 0 by omega)]
      have hn1 : (1 : Int) ≤ n := by omega
      have hn2 : (n == 0) = false := by simpa using n0
      have hn3 : n.toNat - 1 = (n - 1).toNat := by omega
      rw [hn3]
      clear hn3 n0
      obtain ⟨a, c, rfl, hlc, hcm, _, he⟩ := hsl
      go_enter Try.func46, Try.ntmps46
      go_wp2_with fail
      go_loopw [5] (fun j wr => ∃ m : Nat, m ≤ l.length ∧ j = .int .i64 m ∧ (l.take m).any (fun t => t.deep (n - 1).toNat) = false ∧ Below w.heap.size w wr ∧ w.heap.size < wr.heap.size ∧ wr.cell? ⟨w.heap.size, 0, none⟩ = some (.int .i64 4) ∧ wr.cell? ⟨w.heap.size, 4, none⟩ = some (.slice a l.length c)) (fun i _ => l.length - (intOf i).toNat)
      case atStart => exact ⟨0, by omega, rfl, by simp, hb _, by simp, by simp, by simp⟩
      case round =>
        obtain ⟨m, hm, rfl, hd, hb, hz, hc0, hc⟩ := hrel
        have HB := Lib.hid hb
        have HD := Lib.hid hd
        clear hd
        by_cases hlt : m < l.length
        · obtain ⟨b, o, rfl, he1⟩ := he.resolve_left (fun e => by simp [e] at hlt)
          have HE := Lib.hid (he1.keep (D' := D) (w' := wr) (fun b _ h => hb.block b h) (fun _ h _ => h))
          obtain ⟨hD, sa, sc, c0, c1, c2, c3, c4, hv⟩ := HE.out.get hlt
          have HV := Lib.hid hv
          clear hv hb
          have HS := Lib.hid (any_take_succ (fun t => t.deep (n - 1).toNat) l m hlt)
          have HG := Lib.hid (any_of_get (fun t => t.deep (n - 1).toNat) l m hlt)
          cases hx : l[m].deep (n - 1).toNat with
          | true =>
            go_wp2_with fail
            refine (IH.out _ (List.getElem_mem _) _ _ _ _ (by omega) (by omega) HV.out).mono ?_
            rintro e w1 ⟨rfl, hb1⟩
            rw [hx]
            go_wp2_with fail
            go_ret
            exact ⟨ret_bool (HG.out hx).symm, HB.out.trans (hb1.mono (Nat.le_of_lt hz))⟩
          | false =>
            go_wp2_with fail
            refine (IH.out _ (List.getElem_mem _) _ _ _ _ (by omega) (by omega) HV.out).mono ?_
            rintro e w1 ⟨rfl, hb1⟩
            rw [hx]
            have hc1 := (hb1.cell (p := ⟨w.heap.size, 4, none⟩) hz).trans hc
            have hc2 := (hb1.cell (p := ⟨w.heap.size, 0, none⟩) hz).trans hc0
            have hz1 : w.heap.size < w1.heap.size := Nat.lt_of_lt_of_le hz hb1.size
            have HB1 := Lib.hid (HB.out.trans (hb1.mono (Nat.le_of_lt hz)))
            have HX := Lib.hid hx
            clear hb1 hc hx
            go_wp2_with fail
            go_roundw
            case rel => exact ⟨m + 1, by omega, by go_num, by rw [HS.out, HD.out, HX.out]; rfl, HB1.out, hz1, hc2, hc1⟩
            case measure => simp [intOf]; omega
        · have hm' : m = l.length := by omega
          subst hm'
          have e : l.any (fun t => t.deep (n - 1).toNat) = false := by have := HD.out; rwa [List.take_length] at this
          have HF := Lib.hid e
          clear hb e
          go_wp2_with fail
          go_ret
          exact ⟨ret_bool HF.out.symm, HB.out⟩
  · rw [if_neg k4]
    have k4b : (k != 4) = true := by simpa using k4
    go_enter Try.func46, Try.ntmps46
    go_wp2_with fail
    go_ret
    exact ⟨rfl, hb _⟩

/-- What may be asked: not too deep, not too great. -/
def V.light (t : V) : Bool := !t.deep 20 && decide (wrap64 t.size ≤ 6000)

theorem light_c (t : V) (w : World) (sl : Value) (D : Nat → Prop) (hv : VIn D w t sl) :
    Calls Try.prog 17 #[.agg #[.int .i64 t.k, .int .i64 t.i, .float .f64 t.f, .string t.s, sl]] w fun e w' => e = .returned (.bool t.light) ∧ Below w.heap.size w w' := by
  have HV := Lib.hid hv
  have hb : ∀ o, Below w.heap.size w (w.alloc o) := fun o => (Below.refl _ _).alloc (Nat.le_refl _) _
  unfold V.light
  cases hd : t.deep 20 with
  | true =>
    go_enter Try.func17, Try.ntmps17
    go_wp2_with fail
    refine (deep_c _ _ _ _ _ (by omega) (by omega) (HV.out.below (hb _))).mono ?_
    rintro e w1 ⟨rfl, hb1⟩
    have e : t.deep (20 : Int).toNat = true := hd
    rw [e]
    clear e
    go_wp2_with fail
    go_ret
    exact ⟨rfl, (hb _).trans (hb1.mono (by simp))⟩
  | false =>
    cases hs : decide (wrap64 t.size ≤ 6000)
    all_goals
      go_enter Try.func17, Try.ntmps17
      go_wp2_with fail
      refine (deep_c _ _ _ _ _ (by omega) (by omega) (HV.out.below (hb _))).mono ?_
      rintro e w1 ⟨rfl, hb1⟩
      have e : t.deep (20 : Int).toNat = false := hd
      rw [e]
      clear e
      have c0 := hb1.cell (p := ⟨w.heap.size, 0, none⟩) (by simp)
      have c1 := hb1.cell (p := ⟨w.heap.size, 1, none⟩) (by simp)
      have c2 := hb1.cell (p := ⟨w.heap.size, 2, none⟩) (by simp)
      have c3 := hb1.cell (p := ⟨w.heap.size, 3, none⟩) (by simp)
      have c4 := hb1.cell (p := ⟨w.heap.size, 4, none⟩) (by simp)
      have HB1 := Lib.hid hb1
      simp at c0 c1 c2 c3 c4
      clear hb1
      go_wp2_with fail
      refine (size_c _ _ _ _ ((HV.out.below (hb _)).below HB1.out)).mono ?_
      rintro e w2 ⟨rfl, hb2⟩
      generalize wrap64 t.size = z at *
      have HB2 := Lib.hid hb2
      clear hb2
      go_wp2_with fail
      go_ret
      refine ⟨?_, ((hb _).trans (HB1.out.mono (by simp))).trans (HB2.out.mono (Nat.le_trans (by simp) HB1.out.size))⟩
      first | rfl | simp [*]

end Go.Proofs.Ytkhgbbloeeaceaa
