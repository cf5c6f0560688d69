/- The reader of calls: must, number, name, id. -/
import Derived.Test.YtkhgbbloeeaceaaRg
import Derived.Test.YtkhgbbloeeaceaaLa
import Derived.Test.YtkhgbbloeeaceaaEc
namespace Go.Proofs.Ytkhgbbloeeaceaa
open Go Go.RowKit
set_option maxRecDepth 16000
attribute [local go_sem ↓] run_store_float

/-- What ends the reading. -/
def shortC : PanicEntry := { v := .iface 102 (.agg #[]), recovered := false }

theorem cmust_ok (w : World) : Calls Try.prog 37 #[.bool true] w fun e w' => e = .returned (.tuple #[]) ∧ w = w' := by
  go_enter Try.func37, Try.ntmps37
  go_wp2_with fail
  go_end0
  exact ⟨rfl, rfl⟩
theorem cmust_no (w : World) : Calls Try.prog 37 #[.bool false] w fun e w' => e = .panicked [shortC] ∧ w = w' := by
  go_enter Try.func37, Try.ntmps37
  go_wp2_with fail
  exact ⟨rfl, rfl, rfl⟩

/-- The reader's block. -/
def ck (w : World) (rb : Nat) (a : Option Addr) (len c : Nat) (at_ : Int) : Prop := w.heap[rb]? = some (.cells #[.slice a len c, .int .i64 at_] 71)
theorem ck.cells {w rb a len c at_} (h : ck w rb a len c at_) : (w.cell? ⟨rb, 0, none⟩ = some (.slice a len c) ∧ w.cell? ⟨rb, 1, none⟩ = some (.int .i64 at_)) ∧ (∀ n, w.frozen? ⟨rb, n, none⟩ = false) ∧ rb < w.heap.size := by
  unfold ck at h
  exact ⟨⟨by simp [World.cell?, h], by simp [World.cell?, h]⟩, fun n => by simp [World.frozen?, h], (Array.getElem?_eq_some_iff.1 h).1⟩
theorem ck.below {w w' rb a len c at_} (h : ck w rb a len c at_) (hb : Below w.heap.size w w') : ck w' rb a len c at_ := block_below hb h
theorem ck.set1 {w rb a len c at_} (h : ck w rb a len c at_) (x : Int) : ck (w.setCell ⟨rb, 1, none⟩ (.int .i64 x)) rb a len c x := block_setCell_self h
theorem at3_of {w b c s n t} (h : w.heap[b]? = some (.cells #[.int .u32 c, .int .u32 s, .int .u16 n] t)) : at3 w b c s n := by
  simp [at3, World.cell?, h]
/-- Bytes do not lie in the reader's block. -/
theorem BIn.ne2 {w a zs rb a0 len c at_} (h : BIn w a zs) (hr : ck w rb a0 len c at_) : zs = [] ∨ ∃ b o, a = some ⟨b, o, none⟩ ∧ b ≠ rb := by
  cases zs with
  | nil => exact .inl rfl
  | cons z zs =>
    obtain ⟨b, o, e, hc, _⟩ := h 0 (by simp)
    refine .inr ⟨b, o, e, fun hb => ?_⟩
    subst hb
    unfold ck at hr
    simp only [World.cell?, hr] at hc
    rcases o with _ | _ | o <;> simp at hc
theorem BIn.but2 {w w' a zs rb a0 len c at_} (h : BIn w a zs) (hr : ck w rb a0 len c at_) (hb : But rb w w') : BIn w' a zs := by
  rcases h.ne2 hr with e | ⟨b, o, rfl, hne⟩
  · subst e; intro j hj; cases hj
  · intro j hj
    obtain ⟨b2, o2, e, hc, h0⟩ := h j hj
    simp only [Option.some.injEq, Addr.mk.injEq] at e
    obtain ⟨rfl, rfl, _⟩ := e
    refine ⟨_, _, rfl, ?_, h0⟩
    rw [hb.cell_far _ (World.block_lt_of_cell? w _ hc) (fun e => hne (Option.some.inj e))]
    exact hc

/-- A number of n bytes is read. -/
theorem cnumber_ok (rb : Nat) (a : Option Addr) (c : Nat) (zs : List Int) (l : Nat) (n : Nat) (w : World) (hn : n ≤ 8) (hl : zs.length ≤ 140737488355328 ∧ zs.length ≤ c ∧ c ≤ 9223372036854775807) (hla : l ≤ zs.length) (hc : a = none → c = 0) (hr : ck w rb a zs.length c l) (hz : BIn w a zs) (h : l + n ≤ zs.length) :
    Calls Try.prog 36 #[.pointer (some ⟨rb, 0, none⟩), .int .i64 n] w fun e w' => e = .returned (.int .u64 (beN ((zs.drop l).take n))) ∧ ck w' rb a zs.length c ((l + n : Nat) : Int) ∧ But rb w w' := by
  obtain ⟨⟨c0, c1⟩, hf, hlt⟩ := hr.cells
  have HRB := Lib.hid hr
  have hf1 := hf 1
  obtain ⟨a1, c3, ys, hys, hl1, hc1, hbin, hsl⟩ := sub_at a c zs l hla hl.2 hc
  have HB := Lib.hid hbin
  have HZ := Lib.hid hz
  have hyl : ys.length = zs.length - l := by rw [hys, List.length_drop]
  have HYL := Lib.hid hyl
  have HYS := Lib.hid hys
  have hl0 : (0 : Int) ≤ l := by omega
  have hl9 : (l : Int) ≤ 140737488355328 := by omega
  clear hr hf hbin hz hys hyl
  generalize hlen : zs.length = N at *
  have HN := Lib.hid hlen
  clear hlen
  have HU := Lib.hid (show readU ys n = (beN (ys.take n), true) by unfold readU; rw [if_neg (by have := HYL.out; omega)]; rfl)
  go_enter Try.func36, Try.ntmps36
  go_wp2_with fail
  go_quiet ((go_at_call 65; exact Calls.quiet_of_same ((readU2_c a1 c3 ys n _ hl1 (HB.out _ (BIn.below HZ.out (below_drewN (Below.refl _ _) _)))).mono (fun e w' h => ⟨h.1, h.2.symm⟩))))
  rw [HU.out]
  go_wp2_with fail
  refine (cmust_ok _).mono ?_
  rintro e w2 ⟨rfl, rfl⟩
  have hb2 : But rb w (w.drewN nq) := But.of_below (below_drewN (Below.refl _ _) nq)
  have HB2 := Lib.hid hb2
  clear hb2
  go_wp2_with fail
  go_ret
  exact ⟨by rw [HYS.out]; rfl, by rw [Int.natCast_add]; exact HRB.out.set1 _, HB2.out.set 1 _⟩

/-- A number of n bytes is read: there are not so many. -/
theorem cnumber_no (rb : Nat) (a : Option Addr) (c : Nat) (zs : List Int) (l : Nat) (n : Nat) (w : World) (hn : n ≤ 8) (hl : zs.length ≤ 140737488355328 ∧ zs.length ≤ c ∧ c ≤ 9223372036854775807) (hla : l ≤ zs.length) (hc : a = none → c = 0) (hr : ck w rb a zs.length c l) (hz : BIn w a zs) (h : ¬ l + n ≤ zs.length) :
    Calls Try.prog 36 #[.pointer (some ⟨rb, 0, none⟩), .int .i64 n] w fun e w' => e = .panicked [shortC] ∧ But rb w w' := by
  obtain ⟨⟨c0, c1⟩, hf, hlt⟩ := hr.cells
  have HRB := Lib.hid hr
  have hf1 := hf 1
  obtain ⟨a1, c3, ys, hys, hl1, hc1, hbin, hsl⟩ := sub_at a c zs l hla hl.2 hc
  have HB := Lib.hid hbin
  have HZ := Lib.hid hz
  have hyl : ys.length = zs.length - l := by rw [hys, List.length_drop]
  have HYL := Lib.hid hyl
  have HYS := Lib.hid hys
  have hl0 : (0 : Int) ≤ l := by omega
  have hl9 : (l : Int) ≤ 140737488355328 := by omega
  clear hr hf hbin hz hys hyl
  generalize hlen : zs.length = N at *
  have HN := Lib.hid hlen
  clear hlen
  have HU := Lib.hid (show readU ys n = (0, false) by unfold readU; rw [if_pos (by have := HYL.out; omega)])
  go_enter Try.func36, Try.ntmps36
  go_wp2_with fail
  go_quiet ((go_at_call 65; exact Calls.quiet_of_same ((readU2_c a1 c3 ys n _ hl1 (HB.out _ (BIn.below HZ.out (below_drewN (Below.refl _ _) _)))).mono (fun e w' h => ⟨h.1, h.2.symm⟩))))
  rw [HU.out]
  go_wp2_with fail
  refine (cmust_no _).mono ?_
  rintro e w2 ⟨rfl, rfl⟩
  exact ⟨rfl, rfl, But.of_below (below_drewN (Below.refl _ _) nq)⟩


theorem cname_ok (rb : Nat) (a : Option Addr) (c : Nat) (zs : List Int) (l : Nat) (w : World) (hl : zs.length ≤ 140737488355328 ∧ zs.length ≤ c ∧ c ≤ 9223372036854775807) (hla : l ≤ zs.length) (hc : a = none → c = 0) (hr : ck w rb a zs.length c l) (hz : BIn w a zs) (h : (rtext (zs.drop l) 32).2.2 = 0) :
    Calls Try.prog 35 #[.pointer (some ⟨rb, 0, none⟩)] w fun e w' => e = .returned (.string (rtext (zs.drop l) 32).1) ∧ ck w' rb a zs.length c ((l : Int) + (rtext (zs.drop l) 32).2.1) ∧ But rb w w' := by
  obtain ⟨⟨c0, c1⟩, hf, hlt⟩ := hr.cells
  have HRB := Lib.hid hr
  have hf1 := hf 1
  obtain ⟨a1, c3, ys, hys, hl1, hc1, hbin, hsl⟩ := sub_at a c zs l hla hl.2 hc
  have HB := Lib.hid hbin
  have HZ := Lib.hid hz
  have hl0 : (0 : Int) ≤ l := by omega
  have hl9 : (l : Int) ≤ 140737488355328 := by omega
  rw [← hys] at h
  have hyl : ys.length = zs.length - l := by rw [hys, List.length_drop]
  have HYS := Lib.hid hys
  clear hr hf hbin hz hys
  generalize hlen : zs.length = N at *
  have HN := Lib.hid hlen
  clear hlen
  obtain ⟨q1, q2, q3, q4⟩ := rtext_ok h
  have HT := Lib.hid q4
  have HP := Lib.hid (show zs.drop l = ys from HYS.out.symm)
  generalize hu : beN (ys.take 2) = u at HT q2 q3
  generalize txtB ((ys.drop 2).take u) = tx at HT ⊢
  clear h q1 q4 hyl
  go_enter Try.func35, Try.ntmps35
  go_wp2_with fail
  go_quiet ((go_at_call 64; exact Calls.quiet_of_same ((rtext2_c a1 c3 ys 32 _ hl1 (HB.out _ (BIn.below HZ.out (below_drewN (Below.refl _ _) _)))).mono (fun e w' h => ⟨h.1, h.2.symm⟩))))
  rw [HT.out]
  go_wp2_with fail
  refine (cmust_ok _).mono ?_
  rintro e w2 ⟨rfl, rfl⟩
  have HB2 := Lib.hid (show But rb w (w.drewN nq) from But.of_below (below_drewN (Below.refl _ _) nq))
  go_wp2_with fail
  go_ret
  refine ⟨?_, ?_, HB2.out.set 1 _⟩
  · rw [HP.out, HT.out]; rfl
  · rw [HP.out, HT.out]
    exact HRB.out.set1 _

theorem cname_no (rb : Nat) (a : Option Addr) (c : Nat) (zs : List Int) (l : Nat) (w : World) (hl : zs.length ≤ 140737488355328 ∧ zs.length ≤ c ∧ c ≤ 9223372036854775807) (hla : l ≤ zs.length) (hc : a = none → c = 0) (hr : ck w rb a zs.length c l) (hz : BIn w a zs) (h : ¬ (rtext (zs.drop l) 32).2.2 = 0) :
    Calls Try.prog 35 #[.pointer (some ⟨rb, 0, none⟩)] w fun e w' => e = .panicked [shortC] ∧ But rb w w' := by
  obtain ⟨⟨c0, c1⟩, hf, hlt⟩ := hr.cells
  have HRB := Lib.hid hr
  have hf1 := hf 1
  obtain ⟨a1, c3, ys, hys, hl1, hc1, hbin, hsl⟩ := sub_at a c zs l hla hl.2 hc
  have HB := Lib.hid hbin
  have HZ := Lib.hid hz
  have hl0 : (0 : Int) ≤ l := by omega
  have hl9 : (l : Int) ≤ 140737488355328 := by omega
  rw [← hys] at h
  have hyl : ys.length = zs.length - l := by rw [hys, List.length_drop]
  have HYS := Lib.hid hys
  clear hr hf hbin hz hys
  generalize hlen : zs.length = N at *
  have HN := Lib.hid hlen
  clear hlen
  have hq : (rtext ys 32).1 = ⟨#[]⟩ ∧ (rtext ys 32).2.1 = 0 ∧ (rtext ys 32).2.2 = 20 := by
    unfold rtext at h ⊢
    split
    · exact ⟨rfl, rfl, rfl⟩
    · split
      · exact ⟨rfl, rfl, rfl⟩
      · rename_i h1 h2; rw [if_neg h1, if_neg h2] at h; exact absurd rfl h
  have HQ := Lib.hid (show rtext ys 32 = (⟨#[]⟩, 0, 20) from Prod.ext hq.1 (Prod.ext hq.2.1 hq.2.2))
  clear h hq hyl
  go_enter Try.func35, Try.ntmps35
  go_wp2_with fail
  go_quiet ((go_at_call 64; exact Calls.quiet_of_same ((rtext2_c a1 c3 ys 32 _ hl1 (HB.out _ (BIn.below HZ.out (below_drewN (Below.refl _ _) _)))).mono (fun e w' h => ⟨h.1, h.2.symm⟩))))
  rw [HQ.out]
  go_wp2_with fail
  refine (cmust_no _).mono ?_
  rintro e w2 ⟨rfl, rfl⟩
  exact ⟨rfl, rfl, But.of_below (below_drewN (Below.refl _ _) nq)⟩

section
variable {P : Program} {Q : Exit → Act → World → Prop} {md : Region.Mode} {S : World → Prop} {l : List Oper}
/-- One of two comes up. -/
theorem H_two (i j : Nat) {oi oj : Oper} {fuel : Nat} {listed : Array Bool} {a : Act} {w : World} (hi : (l.drop i).head? = some oi) (hj : (l.drop j).head? = some oj) (hr : Region.ready md l.toArray listed = [i, j])
    (h1 : ∀ K : Act → World → Prop, (∀ a' w', S w' → (S w' → wpAnyH P md l.toArray Q S fuel (listed.setIfInBounds i true) a' w') → K a' w') → if Region.wanted oi (yielded l.toArray a.tmps) = true then Oper.wp P oi a w K Q else K (a.put oi.dst undef) w)
    (h2 : ∀ K : Act → World → Prop, (∀ a' w', S w' → (S w' → wpAnyH P md l.toArray Q S fuel (listed.setIfInBounds j true) a' w') → K a' w') → if Region.wanted oj (yielded l.toArray a.tmps) = true then Oper.wp P oj a w K Q else K (a.put oj.dst undef) w) :
    wpAnyH P md l.toArray Q S (fuel + 1) listed a w := by
  refine ⟨(fun h0 => by rw [hr] at h0; cases h0), fun q hq => ?_⟩
  rw [hr] at hq
  rcases List.mem_cons.1 hq with rfl | hq
  · exact wpOp_step (head_drop hi) (fun K' hK => h1 K' (fun a' w' hT hW => hK a' w' ⟨hT, hW hT⟩))
  · rw [List.mem_singleton] at hq
    subst hq
    exact wpOp_step (head_drop hj) (fun K' hK => h2 K' (fun a' w' hT hW => hK a' w' ⟨hT, hW hT⟩))
end
theorem ck.set_far {w rb a len c at_} (h : ck w rb a len c at_) {b : Nat} (hne : rb ≠ b) (o : Nat) (v : Value) : ck (w.setCell ⟨b, o, none⟩ v) rb a len c at_ := block_setCell hne h
theorem ck.set5' {w rb a len c at_} (h : ck w rb a len c at_) {b : Nat} (hne : rb ≠ b) (u0 u1 u2 u3 u4 : Value) : ck (((((w.setCell ⟨b, 0, none⟩ u0).setCell ⟨b, 1, none⟩ u1).setCell ⟨b, 2, none⟩ u2).setCell ⟨b, 3, none⟩ u3).setCell ⟨b, 4, none⟩ u4) rb a len c at_ :=
  ((((h.set_far hne _ _).set_far hne _ _).set_far hne _ _).set_far hne _ _).set_far hne _ _
theorem vread_bounds {zs : List Int} {v : V} {n e : Int} (h : vread (rd true 9 zs) = (v, n, e)) : 0 ≤ n ∧ n ≤ zs.length := by
  unfold vread at h
  split at h
  · simp only [Prod.mk.injEq] at h; omega
  · rename_i v' n' hr
    have := rd_le true 9 zs _ _ hr
    split at h <;> (simp only [Prod.mk.injEq] at h; omega)

/-- The parts of an id that lies at the begin. -/
def idc (zs : List Int) : Nat := beN (zs.take 4)
def ids (zs : List Int) : Nat := beN ((zs.drop 4).take 4)
def idn (zs : List Int) : Nat := beN ((zs.drop 8).take 2)
theorem beN_top (zs : List Int) (hz : Byt zs) (k : Nat) : beN (zs.take k) < 256 ^ k := by
  have h1 := beN_lt (zs.take k) (fun c hc => hz c (List.mem_of_mem_take hc)) 0
  have h2 : 256 ^ (zs.take k).length ≤ 256 ^ k := Nat.pow_le_pow_right (by decide) (by rw [List.length_take]; omega)
  rw [Nat.zero_add, Nat.one_mul] at h1
  exact Nat.lt_of_lt_of_le h1 h2
theorem idc_lt {zs} (hz : Byt zs) : idc zs < 4294967296 := beN_top zs hz 4
theorem ids_lt {zs} (hz : Byt zs) : ids zs < 4294967296 := beN_top _ (fun z h => hz z (List.mem_of_mem_drop h)) 4
theorem idn_lt {zs} (hz : Byt zs) : idn zs < 65536 := beN_top _ (fun z h => hz z (List.mem_of_mem_drop h)) 2
theorem wrap_u32 (c : Nat) (h : c < 4294967296) : IntKind.u32.wrap (c : Int) = c := by
  simp [IntKind.wrap, IntKind.bits, IntKind.signed]
  omega
theorem wrap_u16 (c : Nat) (h : c < 65536) : IntKind.u16.wrap (c : Int) = c := by
  simp [IntKind.wrap, IntKind.bits, IntKind.signed]
  omega

theorem cid_ok (rb : Nat) (a : Option Addr) (c : Nat) (zs : List Int) (l : Nat) (w : World) (hl : zs.length ≤ 140737488355328 ∧ zs.length ≤ c ∧ c ≤ 9223372036854775807) (hla : l ≤ zs.length) (hc : a = none → c = 0) (hr : ck w rb a zs.length c l) (hz : BIn w a zs) (h : l + 10 ≤ zs.length) :
    Calls Try.prog 34 #[.pointer (some ⟨rb, 0, none⟩)] w fun e w' => e = .returned (.agg #[.int .u32 (idc (zs.drop l)), .int .u32 (ids (zs.drop l)), .int .u16 (idn (zs.drop l))]) ∧ ck w' rb a zs.length c ((l + 10 : Nat) : Int) ∧ But rb w w' := by
  have HR0 := Lib.hid hr
  have HZ := Lib.hid hz
  have hrlt := hr.cells.2.2
  have HAL := Lib.hid (fun o => ((Below.refl w.heap.size w).alloc (Nat.le_refl _) o : Below w.heap.size w (w.alloc o)))
  clear hr hz
  go_enter Try.func34, Try.ntmps34
  go_wp2_with fail
  refine (cnumber_ok rb a c zs (l) 4 _ (by omega) hl (by omega) hc (HR0.out.below (HAL.out _)) (HZ.out.below (HAL.out _)) (by omega)).mono ?_
  rintro e w1 ⟨rfl, hk1, hb1⟩
  have HK1 := Lib.hid hk1
  have HB1 := Lib.hid ((But.of_below (HAL.out _)).trans hb1)
  have HZ1 := Lib.hid (BIn.but2 (HZ.out.below (HAL.out _)) (HR0.out.below (HAL.out _)) hb1)
  have HR1 := Lib.hid (hb1.obj (show w.heap.size ≠ rb by omega) (block_alloc_at _ rfl))
  clear hk1 hb1
  go_wp2_with fail
  refine (cnumber_ok rb a c zs (l + 4) 4 _ (by omega) hl (by omega) hc HK1.out HZ1.out (by omega)).mono ?_
  rintro e w2 ⟨rfl, hk2, hb2⟩
  have HK2 := Lib.hid hk2
  have HB2 := Lib.hid (HB1.out.trans hb2)
  have HZ2 := Lib.hid (BIn.but2 HZ1.out HK1.out hb2)
  have HR2 := Lib.hid (hb2.obj (show w.heap.size ≠ rb by omega) HR1.out)
  clear hk2 hb2
  go_wp2_with fail
  refine (cnumber_ok rb a c zs (l + 4 + 4) 2 _ (by omega) hl (by omega) hc HK2.out HZ2.out (by omega)).mono ?_
  rintro e w3 ⟨rfl, hk3, hb3⟩
  have HK3 := Lib.hid hk3
  have HB3 := Lib.hid (HB2.out.trans hb3)
  have HZ3 := Lib.hid (BIn.but2 HZ2.out HK2.out hb3)
  have HR3 := Lib.hid (hb3.obj (show w.heap.size ≠ rb by omega) HR2.out)
  clear hk3 hb3
  have hby : Byt (zs.drop l) := fun z h => HZ.out.byt z (List.mem_of_mem_drop h)
  have e1 : beN (List.take 4 (List.drop l zs)) = idc (zs.drop l) := rfl
  have e2 : beN (List.take 4 (List.drop (l + 4) zs)) = ids (zs.drop l) := by unfold ids; rw [List.drop_drop]
  have e3 : beN (List.take 2 (List.drop (l + 4 + 4) zs)) = idn (zs.drop l) := by unfold idn; rw [List.drop_drop, Nat.add_assoc]
  have q1 := wrap_u32 _ (idc_lt hby)
  have q2 := wrap_u32 _ (ids_lt hby)
  have q3 := wrap_u16 _ (idn_lt hby)
  rw [e1, e2, e3]
  have q4 := idc_lt hby
  have q5 := ids_lt hby
  have q6 := idn_lt hby
  generalize hi1 : idc (zs.drop l) = i1 at q1 q4 ⊢
  generalize hi2 : ids (zs.drop l) = i2 at q2 q5 ⊢
  generalize hi3 : idn (zs.drop l) = i3 at q3 q6 ⊢
  have HI := Lib.hid (And.intro hi1 (And.intro hi2 hi3))
  have q7 : (i1 : Int) % 4294967296 = i1 := by omega
  have q8 : (i2 : Int) % 4294967296 = i2 := by omega
  have q9 : (i3 : Int) % 65536 = i3 := by omega
  clear hi1 hi2 hi3
  obtain ⟨r0, r1, r2⟩ := at3_of HR3.out
  have hrl : w.heap.size < w3.heap.size := World.block_lt_of_cell? _ _ r0
  have hfr := fun k => (show w3.frozen? ⟨w.heap.size, k, none⟩ = false by have := HR3.out; simp [World.frozen?, this])
  have hf0 := hfr 0
  have hf1 := hfr 1
  have hf2 := hfr 2
  have hne : ¬ rb = w.heap.size := by omega
  clear hfr e1 e2 e3 hby
  go_wp2_with fail
  exact bodyPost_ret (v := .agg #[.int .u32 i1, .int .u32 i2, .int .u16 i3]) (by simp [results, Try.results34, go_sem, r0, r1, r2]) rfl ⟨by rw [HI.out.1, HI.out.2.1, HI.out.2.2], block_setCell hne (block_setCell hne (block_setCell hne HK3.out)), ((HB3.out.set_new (Nat.le_refl _) _ _).set_new (Nat.le_refl _) _ _).set_new (Nat.le_refl _) _ _⟩
theorem cid_no (rb : Nat) (a : Option Addr) (c : Nat) (zs : List Int) (l : Nat) (w : World) (hl : zs.length ≤ 140737488355328 ∧ zs.length ≤ c ∧ c ≤ 9223372036854775807) (hla : l ≤ zs.length) (hc : a = none → c = 0) (hr : ck w rb a zs.length c l) (hz : BIn w a zs) (h : ¬ l + 10 ≤ zs.length) :
    Calls Try.prog 34 #[.pointer (some ⟨rb, 0, none⟩)] w fun e w' => e = .panicked [shortC] ∧ But rb w w' := by
  by_cases h1 : l + 4 ≤ zs.length
  · by_cases h2 : l + 4 + 4 ≤ zs.length
    · replace h : ¬ l + 4 + 4 + 2 ≤ zs.length := by omega
      have HR0 := Lib.hid hr
      have HZ := Lib.hid hz
      have hrlt := hr.cells.2.2
      have HAL := Lib.hid (fun o => ((Below.refl w.heap.size w).alloc (Nat.le_refl _) o : Below w.heap.size w (w.alloc o)))
      clear hr hz
      go_enter Try.func34, Try.ntmps34
      go_wp2_with fail
      refine (cnumber_ok rb a c zs (l) 4 _ (by omega) hl (by omega) hc (HR0.out.below (HAL.out _)) (HZ.out.below (HAL.out _)) (by omega)).mono ?_
      rintro e w1 ⟨rfl, hk1, hb1⟩
      have HK1 := Lib.hid hk1
      have HB1 := Lib.hid ((But.of_below (HAL.out _)).trans hb1)
      have HZ1 := Lib.hid (BIn.but2 (HZ.out.below (HAL.out _)) (HR0.out.below (HAL.out _)) hb1)
      have HR1 := Lib.hid (hb1.obj (show w.heap.size ≠ rb by omega) (block_alloc_at _ rfl))
      clear hk1 hb1
      go_wp2_with fail
      refine (cnumber_ok rb a c zs (l + 4) 4 _ (by omega) hl (by omega) hc HK1.out HZ1.out (by omega)).mono ?_
      rintro e w2 ⟨rfl, hk2, hb2⟩
      have HK2 := Lib.hid hk2
      have HB2 := Lib.hid (HB1.out.trans hb2)
      have HZ2 := Lib.hid (BIn.but2 HZ1.out HK1.out hb2)
      have HR2 := Lib.hid (hb2.obj (show w.heap.size ≠ rb by omega) HR1.out)
      clear hk2 hb2
      go_wp2_with fail
      refine (cnumber_no rb a c zs (l + 4 + 4) 2 _ (by omega) hl (by omega) hc HK2.out HZ2.out (by omega)).mono ?_
      rintro e w' ⟨rfl, hb'⟩
      exact ⟨rfl, rfl, HB2.out.trans hb'⟩
    · have HR0 := Lib.hid hr
      have HZ := Lib.hid hz
      have hrlt := hr.cells.2.2
      have HAL := Lib.hid (fun o => ((Below.refl w.heap.size w).alloc (Nat.le_refl _) o : Below w.heap.size w (w.alloc o)))
      clear hr hz
      go_enter Try.func34, Try.ntmps34
      go_wp2_with fail
      refine (cnumber_ok rb a c zs (l) 4 _ (by omega) hl (by omega) hc (HR0.out.below (HAL.out _)) (HZ.out.below (HAL.out _)) (by omega)).mono ?_
      rintro e w1 ⟨rfl, hk1, hb1⟩
      have HK1 := Lib.hid hk1
      have HB1 := Lib.hid ((But.of_below (HAL.out _)).trans hb1)
      have HZ1 := Lib.hid (BIn.but2 (HZ.out.below (HAL.out _)) (HR0.out.below (HAL.out _)) hb1)
      have HR1 := Lib.hid (hb1.obj (show w.heap.size ≠ rb by omega) (block_alloc_at _ rfl))
      clear hk1 hb1
      go_wp2_with fail
      refine (cnumber_no rb a c zs (l + 4) 4 _ (by omega) hl (by omega) hc HK1.out HZ1.out (by omega)).mono ?_
      rintro e w' ⟨rfl, hb'⟩
      exact ⟨rfl, rfl, HB1.out.trans hb'⟩
  · have HR0 := Lib.hid hr
    have HZ := Lib.hid hz
    have hrlt := hr.cells.2.2
    have HAL := Lib.hid (fun o => ((Below.refl w.heap.size w).alloc (Nat.le_refl _) o : Below w.heap.size w (w.alloc o)))
    clear hr hz
    go_enter Try.func34, Try.ntmps34
    go_wp2_with fail
    refine (cnumber_no rb a c zs (l) 4 _ (by omega) hl (by omega) hc (HR0.out.below (HAL.out _)) (HZ.out.below (HAL.out _)) (by omega)).mono ?_
    rintro e w' ⟨rfl, hb'⟩
    exact ⟨rfl, rfl, (But.of_below (HAL.out _)).trans hb'⟩

/-- A value is read. -/
def RetCV (w : World) (rb : Nat) (a : Option Addr) (N c l : Nat) (r : V × Int × Int) (e : Ending) (w' : World) : Prop := But rb w w' ∧
  if r.2.2 = 0 then ∃ (sa : Option Addr) (sc : Nat), e = .returned (.agg #[.int .i64 r.1.k, .int .i64 r.1.i, .float .f64 r.1.f, .string r.1.s, .slice sa r.1.l.length sc]) ∧ VIn (fun b => w.heap.size ≤ b) w' r.1 (.slice sa r.1.l.length sc) ∧ ck w' rb a N c ((l : Int) + r.2.1)
  else e = .panicked [shortC]

set_option maxHeartbeats 1600000 in
theorem cvalue_c (rb : Nat) (a : Option Addr) (c : Nat) (zs : List Int) (l : Nat) (w : World) (hl : zs.length ≤ 140737488355328 ∧ zs.length ≤ c ∧ c ≤ 9223372036854775807) (hla : l ≤ zs.length) (hc : a = none → c = 0) (hr : ck w rb a zs.length c l) (hz : BIn w a zs) :
    Calls Try.prog 38 #[.pointer (some ⟨rb, 0, none⟩)] w (RetCV w rb a zs.length c l (vread (rd true 9 (zs.drop l)))) := by
  have HR0 := Lib.hid hr
  have HZ := Lib.hid hz
  have hrlt := hr.cells.2.2
  have HAL := Lib.hid (fun o => ((Below.refl w.heap.size w).alloc (Nat.le_refl _) o : Below w.heap.size w (w.alloc o)))
  obtain ⟨a1, c3, ys, hys, hl1, hc1, hbin, hsl⟩ := sub_at a c zs l hla hl.2 hc
  have HB := Lib.hid hbin
  have hyl : ys.length ≤ 140737488355328 := by rw [hys, List.length_drop]; omega
  rw [← hys]
  have hl0 : (0 : Int) ≤ l := by omega
  have hl9 : (l : Int) ≤ 140737488355328 := by omega
  generalize hq : vread (rd true 9 ys) = r
  obtain ⟨⟨k, i, f, s, vl⟩, n, e0⟩ := r
  have HQ := Lib.hid hq
  clear hr hz hbin hq hys
  generalize hlen : zs.length = N at *
  have HN := Lib.hid hlen
  clear hlen
  go_enter Try.func38, Try.ntmps38
  go_wp2_with fail
  have HLN := Lib.hid (show ys.length ≤ 140737488355328 ∧ ys.length ≤ c3 ∧ c3 ≤ 9223372036854775807 from ⟨hyl, hl1.1, hl1.2⟩)
  have HNB := Lib.hid (vread_bounds HQ.out)
  have HK0 := Lib.hid (HR0.out.below (HAL.out (.cells #[.int .i64 0, .int .i64 0, .float .f64 0, .string ⟨#[]⟩, .slice none 0 0] 43)))
  have HW0 := Lib.hid (HAL.out (.cells #[.int .i64 0, .int .i64 0, .float .f64 0, .string ⟨#[]⟩, .slice none 0 0] 43))
  have HRS0 := Lib.hid (block_alloc_at (w := w) (.cells #[.int .i64 0, .int .i64 0, .float .f64 0, .string ⟨#[]⟩, .slice none 0 0] 43) rfl)
  have hz0 : w.heap.size < (w.alloc (.cells #[.int .i64 0, .int .i64 0, .float .f64 0, .string ⟨#[]⟩, .slice none 0 0] 43)).heap.size := by simp
  generalize w.alloc _ = w0 at *
  have HBI := Lib.hid (fun (w' : World) (h : Below w0.heap.size w0 w') => HB.out w' ((HZ.out.below HW0.out).below h))
  refine wp_region_held_drew (S := fun w' => (w'.cell? ⟨rb, 0, none⟩ = some (.slice a N c) ∧ w'.cell? ⟨rb, 1, none⟩ = some (.int .i64 l)) ∧ Below w0.heap.size w0 w') (by kernel_rfl) ⟨HK0.out.cells.1, (Below.refl _ _).drew⟩ (fun hT => ?_)
  refine H_take 0 hT rfl (by kernel_rfl) (by kernel_rfl) (by kernel_rfl) (fun _ _ _ h => h) (by rfl) (by (intro w' hw'; (try dsimp only at hw'); go_simp; try with_reducible rfl)) ?_
  try simp only [Act.put, List.setIfInBounds_toArray, List.set_cons_zero, List.set_cons_succ]
  refine H_take 1 hT rfl (by kernel_rfl) (by kernel_rfl) (by kernel_rfl) (fun _ _ _ h => h) (by rfl) (by (intro w' hw'; (try dsimp only at hw'); go_simp; try with_reducible rfl)) ?_
  try simp only [Act.put, List.setIfInBounds_toArray, List.set_cons_zero, List.set_cons_succ]
  refine H_take 2 hT rfl (by kernel_rfl) (by kernel_rfl) (by kernel_rfl) (fun _ _ _ h => h) (by rfl) (by (intro w' hw'; (try dsimp only at hw'); go_simp; try with_reducible rfl)) ?_
  try simp only [Act.put, List.setIfInBounds_toArray, List.set_cons_zero, List.set_cons_succ]
  refine H_take 3 hT rfl (by kernel_rfl) (by kernel_rfl) (by kernel_rfl) (fun _ _ _ h => h) (by rfl) (by (intro w' hw'; (try dsimp only at hw'); go_simp; try with_reducible rfl)) ?_
  try simp only [Act.put, List.setIfInBounds_toArray, List.set_cons_zero, List.set_cons_succ]
  refine H_take 4 hT rfl (by kernel_rfl) (by kernel_rfl) (by kernel_rfl) (fun _ _ _ h => h) (by rfl) (by (intro w' hw'; (try dsimp only at hw'); go_simp; try with_reducible rfl)) ?_
  try simp only [Act.put, List.setIfInBounds_toArray, List.set_cons_zero, List.set_cons_succ]
  refine H_take 5 hT rfl (by kernel_rfl) (by kernel_rfl) (by kernel_rfl) (fun _ _ _ h => h) (by rfl) (by (intro w' hw'; (try dsimp only at hw'); go_simp; try with_reducible rfl)) ?_
  try simp only [Act.put, List.setIfInBounds_toArray, List.set_cons_zero, List.set_cons_succ]
  refine H_take 6 hT rfl (by kernel_rfl) (by kernel_rfl) (by kernel_rfl) (fun _ _ _ h => h) (by rfl) (by (intro w' hw'; (try dsimp only at hw'); go_simp; try with_reducible rfl)) ?_
  try simp only [Act.put, List.setIfInBounds_toArray, List.set_cons_zero, List.set_cons_succ]
  refine H_take 7 hT rfl (by kernel_rfl) (by kernel_rfl) (by kernel_rfl) (fun _ _ _ h => h) (by rfl) (by (intro w' hw'; (try dsimp only at hw'); go_simp; try with_reducible rfl)) ?_
  try simp only [Act.put, List.setIfInBounds_toArray, List.set_cons_zero, List.set_cons_succ]
  refine H_take 8 hT rfl (by kernel_rfl) (by kernel_rfl) (by kernel_rfl) (fun _ _ _ h => h) (by rfl) (by (intro w' hw'; (try dsimp only at hw'); go_simp; try with_reducible rfl)) ?_
  try simp only [Act.put, List.setIfInBounds_toArray, List.set_cons_zero, List.set_cons_succ]
  refine H_two 9 14 rfl rfl (by kernel_rfl) ?_ ?_
  · intro K hK
    rw [if_pos (by rfl)]
    go_simp
    refine (Read2_n HQ.out rfl HLN.out hc1 (HBI.out _ hT.2)).mono ?_
    rintro e w2 ⟨sa2, sc2, rfl, hv2, hb2⟩
    simp only [V.k_mk, V.i_mk, V.f_mk, V.s_mk, V.l_mk] at hv2 ⊢
    have HV2 := Lib.hid (hv2.keep (D' := fun b => w0.heap.size ≤ b) (fun _ _ _ => rfl) (fun b hD _ => hD))
    have HB2 := Lib.hid (hT.2.trans (hb2.mono hT.2.size))
    refine hK _ _ ⟨⟨keepc hb2 hT.1.1, keepc hb2 hT.1.2⟩, HB2.out⟩ (fun hT2 => ?_)
    clear hK hv2 hb2 hT
    try simp only [Act.put, List.setIfInBounds_toArray, List.set_cons_zero, List.set_cons_succ]
    refine H_take 10 hT2 rfl (by kernel_rfl) (by kernel_rfl) (by kernel_rfl) (fun _ _ _ h => h) (by rfl) (by (intro w' hw'; (try dsimp only at hw'); go_simp; try with_reducible rfl)) ?_
    try simp only [Act.put, List.setIfInBounds_toArray, List.set_cons_zero, List.set_cons_succ]
    refine H_take 11 hT2 rfl (by kernel_rfl) (by kernel_rfl) (by kernel_rfl) (fun _ _ _ h => h) (by rfl) (by (intro w' hw'; (try dsimp only at hw'); go_simp; try with_reducible rfl)) ?_
    try simp only [Act.put, List.setIfInBounds_toArray, List.set_cons_zero, List.set_cons_succ]
    refine H_take 12 hT2 rfl (by kernel_rfl) (by kernel_rfl) (by kernel_rfl) (fun _ _ _ h => h) (by rfl) (by (intro w' hw'; (try dsimp only at hw'); go_simp; try with_reducible rfl)) ?_
    try simp only [Act.put, List.setIfInBounds_toArray, List.set_cons_zero, List.set_cons_succ]
    refine H_take 13 hT2 rfl (by kernel_rfl) (by kernel_rfl) (by kernel_rfl) (fun _ _ _ h => h) (by rfl) (by (intro w' hw'; (try dsimp only at hw'); go_simp; try with_reducible rfl)) ?_
    try simp only [Act.put, List.setIfInBounds_toArray, List.set_cons_zero, List.set_cons_succ]
    refine H_one 14 rfl (by kernel_rfl) (fun K hK => ?_)
    rw [if_pos (by rfl)]
    go_simp
    have HA3 := Lib.hid ((Below.refl w2.heap.size w2).alloc (Nat.le_refl _) (.cells #[.int .i64 0, .int .i64 0, .float .f64 0, .string ⟨#[]⟩, .slice none 0 0] 43))
    have HZV := Lib.hid (block_alloc_at (w := w2) (.cells #[.int .i64 0, .int .i64 0, .float .f64 0, .string ⟨#[]⟩, .slice none 0 0] 43) rfl)
    have HVB := Lib.hid (show w0.heap.size ≤ w2.heap.size from HB2.out.size)
    have HV3 := Lib.hid (show ∀ u0 u1 u2 u3 u4 : Value, VIn (fun b => w0.heap.size ≤ b) ((((((w2.alloc (.cells #[.int .i64 0, .int .i64 0, .float .f64 0, .string ⟨#[]⟩, .slice none 0 0] 43)).setCell ⟨w2.heap.size, 0, none⟩ u0).setCell ⟨w2.heap.size, 1, none⟩ u1).setCell ⟨w2.heap.size, 2, none⟩ u2).setCell ⟨w2.heap.size, 3, none⟩ u3).setCell ⟨w2.heap.size, 4, none⟩ u4) (V.mk k i f s vl) (.slice sa2 vl.length sc2) from fun u0 u1 u2 u3 u4 => HV2.out.keep (fun b _ hlt => (heap5 _ _ _ _ _ _ (by omega)).trans (HA3.out.block b hlt)) (fun _ hD _ => hD))
    have HB3 := Lib.hid (HB2.out.trans (HA3.out.mono HB2.out.size))
    refine hK _ _ ⟨⟨keepc HA3.out hT2.1.1, keepc HA3.out hT2.1.2⟩, HB3.out⟩ (fun hT3 => ?_)
    clear hK hT2
    generalize w2.alloc _ = w3 at *
    generalize w2.heap.size = vb at *
    try simp only [Act.put, List.setIfInBounds_toArray, List.set_cons_zero, List.set_cons_succ]
    obtain ⟨⟨v0, v1, v2, v3, v4⟩, hfv⟩ := cells_of_block5 HZV.out
    have hf0 := hfv 0
    have hf1' := hfv 1
    have hf2 := hfv 2
    have hf3 := hfv 3
    have hf4 := hfv 4
    have hvl : vb < w3.heap.size := World.block_lt_of_cell? _ _ v0
    clear hfv
    refine H_one 15 rfl (by kernel_rfl) (fun K hK => ?_)
    rw [if_pos (by rfl)]
    go_simp
    have HV5 := Lib.hid (HV3.out (.int .i64 k) (.int .i64 i) (.float .f64 f) (.string s) (.slice sa2 vl.length sc2))
    have HZV5 := Lib.hid (set5_block HZV.out (.int .i64 k) (.int .i64 i) (.float .f64 f) (.string s) (.slice sa2 vl.length sc2))
    have HB5 := Lib.hid (below5 HB3.out HVB.out (.int .i64 k) (.int .i64 i) (.float .f64 f) (.string s) (.slice sa2 vl.length sc2))
    have hT5' := (show ∀ q, (((((w3.setCell ⟨vb, 0, none⟩ (.int .i64 k)).setCell ⟨vb, 1, none⟩ (.int .i64 i)).setCell ⟨vb, 2, none⟩ (.float .f64 f)).setCell ⟨vb, 3, none⟩ (.string s)).setCell ⟨vb, 4, none⟩ (.slice sa2 vl.length sc2)).cell? ⟨rb, q, none⟩ = w0.cell? ⟨rb, q, none⟩ from fun q => HB5.out.cell (p := ⟨rb, q, none⟩) (by have := World.block_lt_of_cell? _ _ HK0.out.cells.1.1; simpa using this))
    clear v0 v1 v2 v3 v4 hf0 hf1' hf2 hf3 hf4
    generalize (((((w3.setCell ⟨vb, 0, none⟩ (.int .i64 k)).setCell ⟨vb, 1, none⟩ (.int .i64 i)).setCell ⟨vb, 2, none⟩ (.float .f64 f)).setCell ⟨vb, 3, none⟩ (.string s)).setCell ⟨vb, 4, none⟩ (.slice sa2 vl.length sc2)) = w5 at *
    refine hK _ _ ⟨⟨by rw [hT5']; exact HK0.out.cells.1.1, by rw [hT5']; exact HK0.out.cells.1.2⟩, HB5.out⟩ (fun hT5 => ?_)
    clear hK hT3 hT5'
    try simp only [Act.put, List.setIfInBounds_toArray, List.set_cons_zero, List.set_cons_succ]
    refine H_take 16 hT5 rfl (by kernel_rfl) (by kernel_rfl) (by kernel_rfl) (fun _ _ _ h => h) (by rfl) (by (intro w' hw'; (try dsimp only at hw'); go_simp; try with_reducible rfl)) ?_
    try simp only [Act.put, List.setIfInBounds_toArray, List.set_cons_zero, List.set_cons_succ]
    refine H_take 17 hT5 rfl (by kernel_rfl) (by kernel_rfl) (by kernel_rfl) (fun _ _ _ h => h) (by rfl) (by (intro w' hw'; (try dsimp only at hw'); go_simp; try with_reducible rfl)) ?_
    try simp only [Act.put, List.setIfInBounds_toArray, List.set_cons_zero, List.set_cons_succ]
    refine wpAnyH_done (by kernel_rfl) ?_ _
    clear hT5
    have HK5 := Lib.hid (show ck w5 rb a N c l from block_belowB HB5.out HK0.out.cells.2.2 HK0.out)
    have HRS5 := Lib.hid (block_belowB HB5.out hz0 HRS0.out)
    have HBT := Lib.hid (show But rb w w5 from But.of_below (HW0.out.trans (HB5.out.mono HW0.out.size)))
    obtain ⟨⟨r0, r1, r2, r3, r4⟩, hfr⟩ := cells_of_block5 HRS5.out
    obtain ⟨⟨v0, v1, v2, v3, v4⟩, hfv⟩ := cells_of_block5 HZV5.out
    obtain ⟨⟨k0, k1⟩, hkf, hkl⟩ := HK5.out.cells
    have g0 := hfr 0
    have g1 := hfr 1
    have g2 := hfr 2
    have g3 := hfr 3
    have g4 := hfr 4
    have hf1 := hkf 1
    have hne1 : ¬ rb = w.heap.size := by omega
    have hne2 : ¬ w.heap.size = rb := by omega
    have hne3 : ¬ vb = rb := by have := HVB.out; omega
    have hne4 : ¬ rb = vb := by have := HVB.out; omega
    have hne5 : ¬ vb = w.heap.size := by have := HVB.out; omega
    have hne6 : ¬ w.heap.size = vb := by have := HVB.out; omega
    clear hfr hfv hkf
    by_cases he : e0 = 0
    · subst he
      obtain ⟨n0, n1⟩ := HNB.out
      go_wp2_with fail
      refine (cmust_ok _).mono ?_
      rintro e w' ⟨rfl, rfl⟩
      go_wp2_with fail
      refine bodyPost_ret (v := .agg #[.int .i64 k, .int .i64 i, .float .f64 f, .string s, .slice sa2 vl.length sc2]) (by simp [results, Try.results38, go_sem, r0, r1, r2, r3, r4]) rfl ⟨?_, ?_⟩
      · exact ((HBT.out.set 1 _).set5 (Nat.le_refl _) _ _ _ _ _)
      · simp only [if_true]
        refine ⟨sa2, sc2, rfl, ?_, ?_⟩
        · exact HV5.out.keep (fun b hD _ => (heap5 _ _ _ _ _ _ (fun e => by have : w0.heap.size ≤ b := hD; omega)).trans (Below.heap_setCell _ _ _ _ (show b ≠ rb by have : w0.heap.size ≤ b := hD; omega))) (fun b hD _ => by have : w0.heap.size ≤ b := hD; show w.heap.size ≤ b; omega)
        · exact (HK5.out.set1 _).set5' hne1 _ _ _ _ _
    · have heb : (e0 == 0) = false := by simpa using he
      have HE := Lib.hid he
      clear he
      go_wp2_with fail
      refine (cmust_no _).mono ?_
      rintro e w' ⟨rfl, rfl⟩
      exact ⟨rfl, HBT.out, by simp only [if_neg HE.out]⟩
  · intro K hK
    rw [if_pos (by rfl)]
    go_simp
    have HB1 := Lib.hid (show Below w0.heap.size w0 (w0.alloc (.cells #[.int .i64 0, .int .i64 0, .float .f64 0, .string ⟨#[]⟩, .slice none 0 0] 43)).drew from ((Below.refl w0.heap.size w0).alloc (Nat.le_refl _) (.cells #[.int .i64 0, .int .i64 0, .float .f64 0, .string ⟨#[]⟩, .slice none 0 0] 43)).drew)
    have HZV0 := Lib.hid (show (w0.alloc (.cells #[.int .i64 0, .int .i64 0, .float .f64 0, .string ⟨#[]⟩, .slice none 0 0] 43)).drew.heap[w0.heap.size]? = _ from block_alloc_at (w := w0) (n := w0.heap.size) (.cells #[.int .i64 0, .int .i64 0, .float .f64 0, .string ⟨#[]⟩, .slice none 0 0] 43) rfl)
    have hz1 : w0.heap.size < (w0.alloc (.cells #[.int .i64 0, .int .i64 0, .float .f64 0, .string ⟨#[]⟩, .slice none 0 0] 43)).drew.heap.size := by simp
    refine hK _ _ ⟨⟨keepcB HB1.out (World.block_lt_of_cell? _ _ HK0.out.cells.1.1) HK0.out.cells.1.1, keepcB HB1.out (World.block_lt_of_cell? _ _ HK0.out.cells.1.1) HK0.out.cells.1.2⟩, HB1.out⟩ (fun hT1 => ?_)
    clear hK hT
    generalize (w0.alloc _).drew = w1 at *
    try simp only [Act.put, List.setIfInBounds_toArray, List.set_cons_zero, List.set_cons_succ]
    refine H_one 9 rfl (by kernel_rfl) (fun K hK => ?_)
    rw [if_pos (by rfl)]
    go_simp
    refine (Read2_n HQ.out rfl HLN.out hc1 (HBI.out _ hT1.2)).mono ?_
    rintro e w2 ⟨sa2, sc2, rfl, hv2, hb2⟩
    simp only [V.k_mk, V.i_mk, V.f_mk, V.s_mk, V.l_mk] at hv2 ⊢
    have HB3 := Lib.hid (hT1.2.trans (hb2.mono hT1.2.size))
    have HZV := Lib.hid (block_below hb2 HZV0.out)
    have HVB := Lib.hid (Nat.le_refl w0.heap.size)
    have HV3 := Lib.hid (show ∀ u0 u1 u2 u3 u4 : Value, VIn (fun b => w0.heap.size ≤ b) (((((w2.setCell ⟨w0.heap.size, 0, none⟩ u0).setCell ⟨w0.heap.size, 1, none⟩ u1).setCell ⟨w0.heap.size, 2, none⟩ u2).setCell ⟨w0.heap.size, 3, none⟩ u3).setCell ⟨w0.heap.size, 4, none⟩ u4) (V.mk k i f s vl) (.slice sa2 vl.length sc2) from fun u0 u1 u2 u3 u4 => hv2.keep (fun b hD hlt => heap5 _ _ _ _ _ _ (fun e => by have : w1.heap.size ≤ b := hD; omega)) (fun b hD _ => by have : w1.heap.size ≤ b := hD; show w0.heap.size ≤ b; omega))
    refine hK _ _ ⟨⟨keepc hb2 hT1.1.1, keepc hb2 hT1.1.2⟩, HB3.out⟩ (fun hT3 => ?_)
    clear hK hv2 hb2 hT1
    try simp only [Act.put, List.setIfInBounds_toArray, List.set_cons_zero, List.set_cons_succ]
    refine H_take 10 hT3 rfl (by kernel_rfl) (by kernel_rfl) (by kernel_rfl) (fun _ _ _ h => h) (by rfl) (by (intro w' hw'; (try dsimp only at hw'); go_simp; try with_reducible rfl)) ?_
    try simp only [Act.put, List.setIfInBounds_toArray, List.set_cons_zero, List.set_cons_succ]
    refine H_take 11 hT3 rfl (by kernel_rfl) (by kernel_rfl) (by kernel_rfl) (fun _ _ _ h => h) (by rfl) (by (intro w' hw'; (try dsimp only at hw'); go_simp; try with_reducible rfl)) ?_
    try simp only [Act.put, List.setIfInBounds_toArray, List.set_cons_zero, List.set_cons_succ]
    refine H_take 12 hT3 rfl (by kernel_rfl) (by kernel_rfl) (by kernel_rfl) (fun _ _ _ h => h) (by rfl) (by (intro w' hw'; (try dsimp only at hw'); go_simp; try with_reducible rfl)) ?_
    try simp only [Act.put, List.setIfInBounds_toArray, List.set_cons_zero, List.set_cons_succ]
    refine H_take 13 hT3 rfl (by kernel_rfl) (by kernel_rfl) (by kernel_rfl) (fun _ _ _ h => h) (by rfl) (by (intro w' hw'; (try dsimp only at hw'); go_simp; try with_reducible rfl)) ?_
    try simp only [Act.put, List.setIfInBounds_toArray, List.set_cons_zero, List.set_cons_succ]
    obtain ⟨⟨v0, v1, v2, v3, v4⟩, hfv⟩ := cells_of_block5 HZV.out
    have hf0 := hfv 0
    have hf1' := hfv 1
    have hf2 := hfv 2
    have hf3 := hfv 3
    have hf4 := hfv 4
    have hvl : w0.heap.size < w2.heap.size := World.block_lt_of_cell? _ _ v0
    clear hfv
    refine H_one 15 rfl (by kernel_rfl) (fun K hK => ?_)
    rw [if_pos (by rfl)]
    go_simp
    have HV5 := Lib.hid (HV3.out (.int .i64 k) (.int .i64 i) (.float .f64 f) (.string s) (.slice sa2 vl.length sc2))
    have HZV5 := Lib.hid (set5_block HZV.out (.int .i64 k) (.int .i64 i) (.float .f64 f) (.string s) (.slice sa2 vl.length sc2))
    have HB5 := Lib.hid (below5 HB3.out HVB.out (.int .i64 k) (.int .i64 i) (.float .f64 f) (.string s) (.slice sa2 vl.length sc2))
    have hT5' := (show ∀ q, (((((w2.setCell ⟨w0.heap.size, 0, none⟩ (.int .i64 k)).setCell ⟨w0.heap.size, 1, none⟩ (.int .i64 i)).setCell ⟨w0.heap.size, 2, none⟩ (.float .f64 f)).setCell ⟨w0.heap.size, 3, none⟩ (.string s)).setCell ⟨w0.heap.size, 4, none⟩ (.slice sa2 vl.length sc2)).cell? ⟨rb, q, none⟩ = w0.cell? ⟨rb, q, none⟩ from fun q => HB5.out.cell (p := ⟨rb, q, none⟩) (by have := World.block_lt_of_cell? _ _ HK0.out.cells.1.1; simpa using this))
    clear v0 v1 v2 v3 v4 hf0 hf1' hf2 hf3 hf4
    generalize (((((w2.setCell ⟨w0.heap.size, 0, none⟩ (.int .i64 k)).setCell ⟨w0.heap.size, 1, none⟩ (.int .i64 i)).setCell ⟨w0.heap.size, 2, none⟩ (.float .f64 f)).setCell ⟨w0.heap.size, 3, none⟩ (.string s)).setCell ⟨w0.heap.size, 4, none⟩ (.slice sa2 vl.length sc2)) = w5 at *
    refine hK _ _ ⟨⟨by rw [hT5']; exact HK0.out.cells.1.1, by rw [hT5']; exact HK0.out.cells.1.2⟩, HB5.out⟩ (fun hT5 => ?_)
    clear hK hT3 hT5'
    try simp only [Act.put, List.setIfInBounds_toArray, List.set_cons_zero, List.set_cons_succ]
    refine H_take 16 hT5 rfl (by kernel_rfl) (by kernel_rfl) (by kernel_rfl) (fun _ _ _ h => h) (by rfl) (by (intro w' hw'; (try dsimp only at hw'); go_simp; try with_reducible rfl)) ?_
    try simp only [Act.put, List.setIfInBounds_toArray, List.set_cons_zero, List.set_cons_succ]
    refine H_take 17 hT5 rfl (by kernel_rfl) (by kernel_rfl) (by kernel_rfl) (fun _ _ _ h => h) (by rfl) (by (intro w' hw'; (try dsimp only at hw'); go_simp; try with_reducible rfl)) ?_
    try simp only [Act.put, List.setIfInBounds_toArray, List.set_cons_zero, List.set_cons_succ]
    refine wpAnyH_done (by kernel_rfl) ?_ _
    clear hT5
    have HK5 := Lib.hid (show ck w5 rb a N c l from block_belowB HB5.out HK0.out.cells.2.2 HK0.out)
    have HRS5 := Lib.hid (block_belowB HB5.out hz0 HRS0.out)
    have HBT := Lib.hid (show But rb w w5 from But.of_below (HW0.out.trans (HB5.out.mono HW0.out.size)))
    obtain ⟨⟨r0, r1, r2, r3, r4⟩, hfr⟩ := cells_of_block5 HRS5.out
    obtain ⟨⟨v0, v1, v2, v3, v4⟩, hfv⟩ := cells_of_block5 HZV5.out
    obtain ⟨⟨k0, k1⟩, hkf, hkl⟩ := HK5.out.cells
    have g0 := hfr 0
    have g1 := hfr 1
    have g2 := hfr 2
    have g3 := hfr 3
    have g4 := hfr 4
    have hf1 := hkf 1
    have hne1 : ¬ rb = w.heap.size := by omega
    have hne2 : ¬ w.heap.size = rb := by omega
    have hne3 : ¬ w0.heap.size = rb := by have := HVB.out; omega
    have hne4 : ¬ rb = w0.heap.size := by have := HVB.out; omega
    have hne5 : ¬ w0.heap.size = w.heap.size := by have := HVB.out; omega
    have hne6 : ¬ w.heap.size = w0.heap.size := by have := HVB.out; omega
    clear hfr hfv hkf
    by_cases he : e0 = 0
    · subst he
      obtain ⟨n0, n1⟩ := HNB.out
      go_wp2_with fail
      refine (cmust_ok _).mono ?_
      rintro e w' ⟨rfl, rfl⟩
      go_wp2_with fail
      refine bodyPost_ret (v := .agg #[.int .i64 k, .int .i64 i, .float .f64 f, .string s, .slice sa2 vl.length sc2]) (by simp [results, Try.results38, go_sem, r0, r1, r2, r3, r4]) rfl ⟨?_, ?_⟩
      · exact ((HBT.out.set 1 _).set5 (Nat.le_refl _) _ _ _ _ _)
      · simp only [if_true]
        refine ⟨sa2, sc2, rfl, ?_, ?_⟩
        · exact HV5.out.keep (fun b hD _ => (heap5 _ _ _ _ _ _ (fun e => by have : w0.heap.size ≤ b := hD; omega)).trans (Below.heap_setCell _ _ _ _ (show b ≠ rb by have : w0.heap.size ≤ b := hD; omega))) (fun b hD _ => by have : w0.heap.size ≤ b := hD; show w.heap.size ≤ b; omega)
        · exact (HK5.out.set1 _).set5' hne1 _ _ _ _ _
    · have heb : (e0 == 0) = false := by simpa using he
      have HE := Lib.hid he
      clear he
      go_wp2_with fail
      refine (cmust_no _).mono ?_
      rintro e w' ⟨rfl, rfl⟩
      exact ⟨rfl, HBT.out, by simp only [if_neg HE.out]⟩
end Go.Proofs.Ytkhgbbloeeaceaa
