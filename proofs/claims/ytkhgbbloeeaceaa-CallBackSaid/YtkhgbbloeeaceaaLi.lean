/- choirhelp.Lights: a list of light values. -/
import Derived.Test.YtkhgbbloeeaceaaD
namespace Go.Proofs.Ytkhgbbloeeaceaa
open Go Go.RowKit
set_option maxRecDepth 16000

/-- A list of values as it lies in memory. -/
def LIn (D : Nat → Prop) (w : World) (a : Option Addr) (l : List V) : Prop := l = [] ∨ ∃ b o, a = some ⟨b, o, none⟩ ∧ EIn D w b o l
theorem LIn.below {D w w' a l} (h : LIn D w a l) (hb : Below w.heap.size w w') : LIn D w' a l :=
  h.imp id fun ⟨b, o, e, he⟩ => ⟨b, o, e, he.below hb⟩
def V.lights (l : List V) : Bool := decide (l.length ≤ 40) && l.all V.light

theorem lights_c (a : Option Addr) (c : Nat) (l : List V) (D : Nat → Prop) (w : World) (hl : l.length ≤ 9223372036854775807) (he : LIn D w a l) :
    Calls Try.prog 28 #[.slice a l.length c] w fun e w' => e = .returned (.bool (V.lights l)) ∧ Below w.heap.size w w' := by
  have HE0 := Lib.hid he
  clear he
  by_cases h40 : l.length ≤ 40
  · have e : V.lights l = l.all V.light := by unfold V.lights; simp [h40]
    rw [e]
    clear e
    go_enter Try.func28, Try.ntmps28
    go_wp2_with fail
    go_loopw [3] (fun j wr => ∃ m : Nat, m ≤ l.length ∧ j = .int .i64 m ∧ (l.take m).all V.light = true ∧ Below w.heap.size w wr) (fun j _ => l.length - (intOf j).toNat)
    case atStart => exact ⟨0, by omega, rfl, by simp, Below.refl _ _⟩
    case round =>
      obtain ⟨m, hm, rfl, hall, hb⟩ := hrel
      have HA := Lib.hid hall
      have HB := Lib.hid hb
      clear hall
      by_cases hlt : m < l.length
      · obtain ⟨b, o, rfl, he1⟩ := HE0.out.resolve_left (fun e => by simp [e] at hlt)
        have HE := Lib.hid (he1.below hb)
        obtain ⟨hD, sa, sc, c0, c1, c2, c3, c4, hv⟩ := HE.out.get hlt
        have HV := Lib.hid hv
        clear hv hb
        go_wp2_with fail
        refine (light_c l[m] _ _ _ HV.out).mono ?_
        rintro e w1 ⟨rfl, hb1⟩
        have HB1 := Lib.hid (HB.out.trans (hb1.mono HB.out.size))
        clear hb1
        cases hx : V.light l[m] with
        | true =>
          have HN := Lib.hid (show (l.take (m + 1)).all V.light = true by
            rw [List.take_succ_eq_append_getElem hlt, List.all_append, HA.out]
            simp [hx])
          go_wp2_with fail
          go_roundw
          case rel => exact ⟨m + 1, by omega, by go_num, HN.out, HB1.out⟩
          case measure => simp [intOf]; omega
        | false =>
          have HN := Lib.hid (show l.all V.light = false from List.all_eq_false.2 ⟨l[m], List.getElem_mem hlt, by simp [hx]⟩)
          go_wp2_with fail
          go_ret
          rw [HN.out]
          exact ⟨rfl, HB1.out⟩
      · have hm' : m = l.length := by omega
        have HN := Lib.hid (show l.all V.light = true by have := HA.out; rwa [hm', List.take_length] at this)
        clear hb
        go_wp2_with fail
        go_ret
        rw [HN.out]
        exact ⟨rfl, HB.out⟩
  · have e : V.lights l = false := by unfold V.lights; simp; intro h; omega
    rw [e]
    clear e
    go_enter Try.func28, Try.ntmps28
    go_wp2_with fail
    go_ret
    exact ⟨rfl, Below.refl _ _⟩
end Go.Proofs.Ytkhgbbloeeaceaa
