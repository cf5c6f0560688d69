/- The reader: must, number. -/
import Derived.Test.YtkhgbbloeeaceaaDd
import Derived.Test.YtkhgbbloeeaceaaWb
import Derived.Deep.QuietTactic
import Derived.BigQuiet
namespace Go.Proofs.Ytkhgbbloeeaceaa
open Go Go.RowKit
set_option maxRecDepth 16000
attribute [local go_sem ↓] run_store_float

/-- What ends the reading. -/
def shortP : PanicEntry := { v := .iface 121 (.agg #[]), recovered := false }

theorem must_ok (w : World) : Calls Try.prog 87 #[.bool true] w fun e w' => e = .returned (.tuple #[]) ∧ w = w' := by
  go_enter Try.func87, Try.ntmps87
  go_wp2_with fail
  go_end0
  exact ⟨rfl, rfl⟩
theorem must_no (w : World) : Calls Try.prog 87 #[.bool false] w fun e w' => e = .panicked [shortP] ∧ w = w' := by
  go_enter Try.func87, Try.ntmps87
  go_wp2_with fail
  exact ⟨rfl, rfl, rfl⟩

/-- The reader's block. -/
def rbk (w : World) (rb : Nat) (a : Option Addr) (len c : Nat) (at_ d : Int) : Prop := w.heap[rb]? = some (.cells #[.slice a len c, .int .i64 at_, .int .i64 d] 125)
theorem rbk.cells {w rb a len c at_ d} (h : rbk w rb a len c at_ d) : (w.cell? ⟨rb, 0, none⟩ = some (.slice a len c) ∧ w.cell? ⟨rb, 1, none⟩ = some (.int .i64 at_) ∧ w.cell? ⟨rb, 2, none⟩ = some (.int .i64 d)) ∧ (∀ n, w.frozen? ⟨rb, n, none⟩ = false) ∧ rb < w.heap.size := by
  unfold rbk at h
  exact ⟨⟨by simp [World.cell?, h], by simp [World.cell?, h], by simp [World.cell?, h]⟩, fun n => by simp [World.frozen?, h], (Array.getElem?_eq_some_iff.1 h).1⟩
theorem rbk.below {w w' rb a len c at_ d} (h : rbk w rb a len c at_ d) (hb : Below w.heap.size w w') : rbk w' rb a len c at_ d := block_below hb h
theorem rbk.set1 {w rb a len c at_ d} (h : rbk w rb a len c at_ d) (x : Int) : rbk (w.setCell ⟨rb, 1, none⟩ (.int .i64 x)) rb a len c x d := block_setCell_self h
theorem rbk.set2 {w rb a len c at_ d} (h : rbk w rb a len c at_ d) (x : Int) : rbk (w.setCell ⟨rb, 2, none⟩ (.int .i64 x)) rb a len c at_ x := block_setCell_self h
/-- Nothing was turned but the reader, and what is new. -/
abbrev But (rb : Nat) (w w' : World) : Prop := w.grownBy w' (some rb)
theorem But.refl (rb w) : But rb w w := ⟨rfl, rfl, rfl, Nat.le_refl _, fun _ _ _ => rfl⟩
theorem But.trans {rb w w1 w2} (h : But rb w w1) (g : But rb w1 w2) : But rb w w2 :=
  ⟨g.os.trans h.os, g.tape.trans h.tape, g.output.trans h.output, Nat.le_trans h.size g.size, fun k hk hne => by rw [g.block k (Nat.lt_of_lt_of_le hk h.size) hne, h.block k hk hne]⟩
theorem But.of_below {rb w w'} (h : Below w.heap.size w w') : But rb w w' := ⟨h.os, h.tape, h.output, h.size, fun k hk _ => h.block k hk⟩
theorem But.set {rb w w'} (h : But rb w w') (o : Nat) (v : Value) : But rb w (w'.setCell ⟨rb, o, none⟩ v) :=
  ⟨h.os, h.tape, h.output, by simpa using h.size, fun k hk hne => by rw [Below.heap_setCell _ _ _ _ (fun e => hne (by rw [e])), h.block k hk hne]⟩
theorem But.obj {rb w w' n o} (h : But rb w w') (hne : n ≠ rb) (hb : w.heap[n]? = some o) : w'.heap[n]? = some o := by
  rw [h.block n (Array.getElem?_eq_some_iff.1 hb).1 (fun e => hne (Option.some.inj e))]; exact hb
/-- Bytes do not lie in the reader's block. -/
theorem BIn.ne {w a zs rb a0 len c at_ d} (h : BIn w a zs) (hr : rbk w rb a0 len c at_ d) : zs = [] ∨ ∃ b o, a = some ⟨b, o, none⟩ ∧ b ≠ rb := by
  cases zs with
  | nil => exact .inl rfl
  | cons z zs =>
    obtain ⟨b, o, e, hc, _⟩ := h 0 (by simp)
    refine .inr ⟨b, o, e, fun hb => ?_⟩
    subst hb
    unfold rbk at hr
    simp only [World.cell?, hr] at hc
    rcases o with _ | _ | _ | o <;> simp at hc
theorem BIn.but {w w' a zs rb a0 len c at_ d} (h : BIn w a zs) (hr : rbk w rb a0 len c at_ d) (hb : But rb w w') : BIn w' a zs := by
  rcases h.ne hr with e | ⟨b, o, rfl, hne⟩
  · subst e; intro j hj; cases hj
  · intro j hj
    obtain ⟨b2, o2, e, hc, h0⟩ := h j hj
    simp only [Option.some.injEq, Addr.mk.injEq] at e
    obtain ⟨rfl, rfl, _⟩ := e
    refine ⟨_, _, rfl, ?_, h0⟩
    rw [hb.cell_far _ (World.block_lt_of_cell? w _ hc) (fun e => hne (Option.some.inj e))]
    exact hc
/-- A value that is the call's own stays. -/
theorem VIn.but {w w' : World} {base rb : Nat} {t v} (h : VIn (fun b => base ≤ b) w t v) (hlt : rb < base) (hb : But rb w w') : VIn (fun b => base ≤ b) w' t v :=
  h.keep (fun b hD hl => hb.block b hl (fun e => by have := Option.some.inj e; omega)) (fun _ hD _ => hD)

/-- A number of n bytes is read. -/
theorem number_ok (rb : Nat) (a : Option Addr) (c : Nat) (zs : List Int) (l : Nat) (dp : Int) (n : Nat) (w : World) (hn : n ≤ 8) (hl : zs.length ≤ 140737488355328 ∧ zs.length ≤ c ∧ c ≤ 9223372036854775807) (hla : l ≤ zs.length) (hc : a = none → c = 0) (hr : rbk w rb a zs.length c l dp) (hz : BIn w a zs) (h : l + n ≤ zs.length) :
    Calls Try.prog 99 #[.pointer (some ⟨rb, 0, none⟩), .int .i64 n] w fun e w' => e = .returned (.int .u64 (beN ((zs.drop l).take n))) ∧ rbk w' rb a zs.length c ((l + n : Nat) : Int) dp ∧ But rb w w' := by
  obtain ⟨⟨c0, c1, c2⟩, hf, hlt⟩ := hr.cells
  have HRB := Lib.hid hr
  have hf1 := hf 1
  obtain ⟨a1, c3, ys, hys, hl1, hc1, hbin, hsl⟩ := sub_at a c zs l hla hl.2 hc
  have HB := Lib.hid hbin
  have HZ := Lib.hid hz
  have hyl : ys.length = zs.length - l := by rw [hys, List.length_drop]
  have HYL := Lib.hid hyl
  have HYS := Lib.hid hys
  have hl0 : (0 : Int) ≤ l := by omega
  have hl9 : (l : Int) ≤ 140737488355328 := by omega
  clear hr hf hbin hz hys hyl
  generalize hlen : zs.length = N at *
  have HN := Lib.hid hlen
  clear hlen
  have HU := Lib.hid (show readU ys n = (beN (ys.take n), true) by unfold readU; rw [if_neg (by have := HYL.out; omega)]; rfl)
  go_enter Try.func99, Try.ntmps99
  go_wp2_with fail
  go_quiet ((go_at_call 65; exact Calls.quiet_of_same ((readU2_c a1 c3 ys n _ hl1 (HB.out _ (BIn.below HZ.out (below_drewN (Below.refl _ _) _)))).mono (fun e w' h => ⟨h.1, h.2.symm⟩))))
  rw [HU.out]
  go_wp2_with fail
  refine (must_ok _).mono ?_
  rintro e w2 ⟨rfl, rfl⟩
  have hb2 : But rb w (w.drewN nq) := But.of_below (below_drewN (Below.refl _ _) nq)
  have HB2 := Lib.hid hb2
  clear hb2
  go_wp2_with fail
  go_ret
  exact ⟨by rw [HYS.out]; rfl, by rw [Int.natCast_add]; exact HRB.out.set1 _, HB2.out.set 1 _⟩

/-- A number of n bytes is read: there are not so many. -/
theorem number_no (rb : Nat) (a : Option Addr) (c : Nat) (zs : List Int) (l : Nat) (dp : Int) (n : Nat) (w : World) (hn : n ≤ 8) (hl : zs.length ≤ 140737488355328 ∧ zs.length ≤ c ∧ c ≤ 9223372036854775807) (hla : l ≤ zs.length) (hc : a = none → c = 0) (hr : rbk w rb a zs.length c l dp) (hz : BIn w a zs) (h : ¬ l + n ≤ zs.length) :
    Calls Try.prog 99 #[.pointer (some ⟨rb, 0, none⟩), .int .i64 n] w fun e w' => e = .panicked [shortP] ∧ But rb w w' := by
  obtain ⟨⟨c0, c1, c2⟩, hf, hlt⟩ := hr.cells
  have HRB := Lib.hid hr
  have hf1 := hf 1
  obtain ⟨a1, c3, ys, hys, hl1, hc1, hbin, hsl⟩ := sub_at a c zs l hla hl.2 hc
  have HB := Lib.hid hbin
  have HZ := Lib.hid hz
  have hyl : ys.length = zs.length - l := by rw [hys, List.length_drop]
  have HYL := Lib.hid hyl
  have HYS := Lib.hid hys
  have hl0 : (0 : Int) ≤ l := by omega
  have hl9 : (l : Int) ≤ 140737488355328 := by omega
  clear hr hf hbin hz hys hyl
  generalize hlen : zs.length = N at *
  have HN := Lib.hid hlen
  clear hlen
  have HU := Lib.hid (show readU ys n = (0, false) by unfold readU; rw [if_pos (by have := HYL.out; omega)])
  go_enter Try.func99, Try.ntmps99
  go_wp2_with fail
  go_quiet ((go_at_call 65; exact Calls.quiet_of_same ((readU2_c a1 c3 ys n _ hl1 (HB.out _ (BIn.below HZ.out (below_drewN (Below.refl _ _) _)))).mono (fun e w' h => ⟨h.1, h.2.symm⟩))))
  rw [HU.out]
  go_wp2_with fail
  refine (must_no _).mono ?_
  rintro e w2 ⟨rfl, rfl⟩
  exact ⟨rfl, rfl, But.of_below (below_drewN (Below.refl _ _) nq)⟩

end Go.Proofs.Ytkhgbbloeeaceaa
