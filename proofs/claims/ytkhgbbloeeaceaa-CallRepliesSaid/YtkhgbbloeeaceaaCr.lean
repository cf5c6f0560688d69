/- CallReads: the walk. -/
import Derived.Test.YtkhgbbloeeaceaaKn
import Derived.Test.YtkhgbbloeeaceaaRh
namespace Go.Proofs.Ytkhgbbloeeaceaa
open Go Go.RowKit
set_option maxRecDepth 16000
attribute [local go_sem ↓] run_store_float

abbrev one6 (w0 w : World) (c s n : Int) (g m : ByteArray) (sl : Value) : Prop := at6 w w0.heap.size c s n g m sl ∧ Below w0.heap.size w0 w ∧ w0.heap.size < w.heap.size
theorem one6.keep {w0 w w1 : World} (hb : Below w.heap.size w w1) {c s n g m sl} (h : one6 w0 w c s n g m sl) : one6 w0 w1 c s n g m sl := ⟨h.1.keep hb, h.2.1.trans (hb.mono (Nat.le_of_lt h.2.2)), Nat.lt_of_lt_of_le h.2.2 hb.size⟩
theorem one6.start0 {w0 : World} {c s n : Int} {g m : ByteArray} {sl : Value} {t : TypeId} : one6 w0 (w0.alloc (.cells #[.int .u32 c, .int .u32 s, .int .u16 n, .string g, .string m, sl] t)) c s n g m sl := ⟨at6.new, (Below.refl _ _).alloc (Nat.le_refl _) _, by simp⟩
theorem ReadO1_n {a : Option Addr} {c N : Nat} {zs : List Int} {w : World} {r : O × Int × Int} (hr : oread zs = r) (hN : zs.length = N) (hl : N ≤ 140737488355328 ∧ N ≤ c ∧ c ≤ 9223372036854775807) (hc : a = none → c = 0) (hz : BIn w a zs) :
    Calls Try.prog 12 #[.slice a N c] w (RetO w r) := by
  subst hr; subst hN; exact ReadO1_c a c zs w hl hc hz
theorem ReadP1_n {a : Option Addr} {c N : Nat} {zs : List Int} {w : World} {r : RP × Int × Int} (hr : rread zs = r) (hN : zs.length = N) (hl : N ≤ 140737488355328 ∧ N ≤ c ∧ c ≤ 9223372036854775807) (hc : a = none → c = 0) (hz : BIn w a zs) :
    Calls Try.prog 15 #[.slice a N c] w (RetP w r) := by
  subst hr; subst hN; exact ReadP1_c a c zs w hl.2 hc hz
/-- Replies just alike. -/
def sameP (c s n e : Int) (t : V) (c' s' n' e' : Int) (t' : V) : Bool := sameId c s n c' s' n' && (decide (e = e') && t.same t')
theorem sameP_self (c s n e t) : sameP c s n e t c s n e t = true := by simp [sameP, sameId, V.same_self]
theorem preply_c (c s n e : Int) (t : V) (sl : Value) (c' s' n' e' : Int) (t' : V) (sl' : Value) (w : World) (D E : Nat → Prop) (h1 : VIn D w t sl) (h2 : VIn E w t' sl') :
    Calls Try.prog 16 #[pval c s n e t sl, pval c' s' n' e' t' sl'] w fun r w' => r = .returned (.bool (sameP c s n e t c' s' n' e' t')) ∧ Below w.heap.size w w' := by
  have H1 := Lib.hid h1
  have H2 := Lib.hid h2
  have HBB := Lib.hid (fun o o' => (((Below.refl w.heap.size w).alloc (Nat.le_refl _) o).alloc (by simp) o' : Below w.heap.size w ((w.alloc o).alloc o')))
  generalize hr : sameP c s n e t c' s' n' e' t' = r
  have HR := Lib.hid hr.symm
  clear h1 h2 hr
  by_cases hc : c = c'
  · subst hc
    by_cases hs : s = s'
    · subst hs
      by_cases hn : n = n'
      · subst hn
        by_cases he : e = e'
        · subst he
          go_enter Try.func16, Try.ntmps16
          go_wp2_with fail
          refine (same_c t t' _ _ _ D E (H1.out.below (HBB.out _ _)) (H2.out.below (HBB.out _ _))).mono ?_
          rintro e w1 ⟨rfl, hb1⟩
          have HB := Lib.hid ((HBB.out _ _).trans (hb1.mono (by simp; omega)))
          clear hb1
          go_wp2_with fail
          go_ret
          exact ⟨ret_bool (by rw [HR.out]; simp [sameP, sameId]), HB.out⟩
        · have hx : (e == e') = false := by simpa using he
          have HX := Lib.hid he
          clear he
          go_enter Try.func16, Try.ntmps16
          go_wp2_with fail
          go_ret
          exact ⟨ret_bool (by rw [HR.out]; simp [sameP, sameId, HX.out]), HBB.out _ _⟩
      · have hx : (n == n') = false := by simpa using hn
        have HX := Lib.hid hn
        clear hn
        go_enter Try.func16, Try.ntmps16
        go_wp2_with fail
        go_ret
        exact ⟨ret_bool (by rw [HR.out]; simp [sameP, sameId, HX.out]), HBB.out _ _⟩
    · have hx : (s == s') = false := by simpa using hs
      have HX := Lib.hid hs
      clear hs
      go_enter Try.func16, Try.ntmps16
      go_wp2_with fail
      go_ret
      exact ⟨ret_bool (by rw [HR.out]; simp [sameP, sameId, HX.out]), HBB.out _ _⟩
  · have hx : (c == c') = false := by simpa using hc
    have HX := Lib.hid hc
    clear hc
    go_enter Try.func16, Try.ntmps16
    go_wp2_with fail
    go_ret
    exact ⟨ret_bool (by rw [HR.out]; simp [sameP, sameId, HX.out]), HBB.out _ _⟩

theorem callReads_long (a : Option Addr) (c : Nat) (rs : List Int) (oc os_ on : Nat) (og om : ByteArray) (l : List V) (va : Option Addr) (vc : Nat) (at_ x : Int) (cut : Bool) (w : World)
    (hl : rs.length ≤ c ∧ c ≤ 9223372036854775807) (hc : a = none → c = 0) (hz : BIn w a rs) (hat : 0 ≤ at_ ∧ at_ ≤ 65535) (hx : 0 ≤ x ∧ x ≤ 255) (hi : oc < 4294967296 ∧ os_ < 4294967296 ∧ on < 65536) (hs : og.size ≤ 140737488351232 ∧ om.size ≤ 140737488351232)
    (hv : VIn (fun _ => True) w (VL l) (.slice va l.length vc)) (h : (300 : Int) < rs.length) :
    Calls Try.prog 3 #[.slice a rs.length c, oval oc os_ on og om (.slice va l.length vc), .int .u16 at_, .int .u8 x, .bool cut] w fun e w' => e = .returned (.bool true) ∧ Below w.heap.size w w' := by
  have HZ := Lib.hid hz
  have HV := Lib.hid (show VIn (fun b => b < w.heap.size) w (VL l) (.slice va l.length vc) from hv.keep (fun _ _ _ => rfl) (fun b _ hlt => hlt))
  have HC := Lib.hid hc
  have HAL := Lib.hid (one6.start0 (w0 := w) (c := oc) (s := os_) (n := on) (g := og) (m := om) (sl := .slice va l.length vc) (t := 29))
  clear hz hv hc
  go_enter Try.func3, Try.ntmps3
  go_wp2_with fail
  refine (known6_c _).mono ?_
  rintro e w1 ⟨rfl, hb1⟩
  have H1 := Lib.hid (one6.keep hb1 HAL.out)
  obtain ⟨⟨⟨c0, c1, c2'⟩, c3, c4, c5⟩, _, _⟩ := H1.out
  clear hb1
  go_wp2_with fail
  go_ret
  exact ⟨rfl, H1.out.2.1⟩

theorem callReads_light (a : Option Addr) (c : Nat) (rs : List Int) (oc os_ on : Nat) (og om : ByteArray) (l : List V) (va : Option Addr) (vc : Nat) (at_ x : Int) (cut : Bool) (w : World)
    (hl : rs.length ≤ c ∧ c ≤ 9223372036854775807) (hc : a = none → c = 0) (hz : BIn w a rs) (hat : 0 ≤ at_ ∧ at_ ≤ 65535) (hx : 0 ≤ x ∧ x ≤ 255) (hi : oc < 4294967296 ∧ os_ < 4294967296 ∧ on < 65536) (hs : og.size ≤ 140737488351232 ∧ om.size ≤ 140737488351232)
    (hv : VIn (fun _ => True) w (VL l) (.slice va l.length vc)) (h0 : (rs.length : Int) ≤ 300) (h : (decide (og.size ≤ 100) && (decide (om.size ≤ 100) && V.lights l)) = false) :
    Calls Try.prog 3 #[.slice a rs.length c, oval oc os_ on og om (.slice va l.length vc), .int .u16 at_, .int .u8 x, .bool cut] w fun e w' => e = .returned (.bool true) ∧ Below w.heap.size w w' := by
  have HZ := Lib.hid hz
  have HV := Lib.hid (show VIn (fun b => b < w.heap.size) w (VL l) (.slice va l.length vc) from hv.keep (fun _ _ _ => rfl) (fun b _ hlt => hlt))
  have HC := Lib.hid hc
  have HAL := Lib.hid (one6.start0 (w0 := w) (c := oc) (s := os_) (n := on) (g := og) (m := om) (sl := .slice va l.length vc) (t := 29))
  clear hz hv hc
  go_enter Try.func3, Try.ntmps3
  go_wp2_with fail
  refine (known6_c _).mono ?_
  rintro e w1 ⟨rfl, hb1⟩
  have H1 := Lib.hid (one6.keep hb1 HAL.out)
  obtain ⟨⟨⟨c0, c1, c2'⟩, c3, c4, c5⟩, _, _⟩ := H1.out
  clear hb1
  go_wp2_with fail
  refine (lightop_c oc os_ on og om l _ w1 _ hs (HV.out.below H1.out.2.1)).mono ?_
  rintro e w2 ⟨rfl, hb2⟩
  have H2 := Lib.hid (one6.keep hb2 H1.out)
  clear hb2 c0 c1 c2' c3 c4 c5 HAL
  rw [h]
  go_wp2_with fail
  go_ret
  exact ⟨rfl, H2.out.2.1⟩

set_option maxHeartbeats 4000000 in
theorem callReads_err (a : Option Addr) (c : Nat) (rs : List Int) (oc os_ on : Nat) (og om : ByteArray) (l : List V) (va : Option Addr) (vc : Nat) (at_ x : Int) (cut : Bool) (w : World)
    (hl : rs.length ≤ c ∧ c ≤ 9223372036854775807) (hc : a = none → c = 0) (hz : BIn w a rs) (hat : 0 ≤ at_ ∧ at_ ≤ 65535) (hx : 0 ≤ x ∧ x ≤ 255) (hi : oc < 4294967296 ∧ os_ < 4294967296 ∧ on < 65536) (hs : og.size ≤ 140737488351232 ∧ om.size ≤ 140737488351232)
    (hv : VIn (fun _ => True) w (VL l) (.slice va l.length vc)) (h0 : (rs.length : Int) ≤ 300) (h : (decide (og.size ≤ 100) && (decide (om.size ≤ 100) && V.lights l)) = true) (E : Int) (hput : oput [] oc os_ on og om l = ([], E)) :
    Calls Try.prog 3 #[.slice a rs.length c, oval oc os_ on og om (.slice va l.length vc), .int .u16 at_, .int .u8 x, .bool cut] w fun e w' => e = .returned (.bool true) ∧ Below w.heap.size w w' := by
  have HVP := Lib.hid hput
  clear hput
  have HZ := Lib.hid hz
  have HV := Lib.hid (show VIn (fun b => b < w.heap.size) w (VL l) (.slice va l.length vc) from hv.keep (fun _ _ _ => rfl) (fun b _ hlt => hlt))
  have HC := Lib.hid hc
  have HAL := Lib.hid (one6.start0 (w0 := w) (c := oc) (s := os_) (n := on) (g := og) (m := om) (sl := .slice va l.length vc) (t := 29))
  clear hz hv hc
  go_enter Try.func3, Try.ntmps3
  go_wp2_with fail
  refine (known6_c _).mono ?_
  rintro e w1 ⟨rfl, hb1⟩
  have H1 := Lib.hid (one6.keep hb1 HAL.out)
  obtain ⟨⟨⟨c0, c1, c2'⟩, c3, c4, c5⟩, _, _⟩ := H1.out
  clear hb1
  go_wp2_with fail
  refine (lightop_c oc os_ on og om l _ w1 _ hs (HV.out.below H1.out.2.1)).mono ?_
  rintro e w2 ⟨rfl, hb2⟩
  have H2 := Lib.hid (one6.keep hb2 H1.out)
  clear hb2 c0 c1 c2' c3 c4 c5 HAL
  rw [h]
  obtain ⟨⟨⟨c0, c1, c2'⟩, c3', c4, c5⟩, _, _⟩ := H2.out
  go_wp2_with fail
  have hP1 := putOp1_c w.heap.size (.slice none 0 0) [] oc os_ on og om l _ w2 hi hs Bs.nil H2.out.2.1.size (by simp) (HV.out.below H2.out.2.1)
  rw [HVP.out] at hP1
  refine hP1.mono ?_
  rintro e w3 ⟨sl3, rfl, hap3⟩
  have H3 := Lib.hid (one6.keep (apn_below (Nat.le_refl _) hap3) H2.out)
  have HO3 := Lib.hid (hap3.ow ⟨[], World.ownsRow_nil _ _ _ _⟩)
  clear hap3 hP1 c0 c1 c2' c3' c4 c5
  obtain ⟨a3, c3, rfl, hl3, hc3, hbin3⟩ := (show Bs w3 w.heap.size sl3 [] from .inl HO3.out).binB (fun z hz => by cases hz) (by simp)
  simp only [List.length_nil] at hl3 ⊢
  go_wp2_with fail
  have hbw5 : Below w.heap.size w (w3.alloc (.cells #[.slice a rs.length c, .slice a3 0 c3] 22)) := H3.out.2.1.alloc H3.out.2.1.size _
  have hrow : (w3.alloc (.cells #[.slice a rs.length c, .slice a3 0 c3] 22)).heap[w3.heap.size]? = some (.cells #[.slice a rs.length c, .slice a3 0 c3] 22) := block_alloc_at _ rfl
  have hw5 : ([] : List Int).length = 0 ∧ (0 ≤ c3 ∧ c3 ≤ 9223372036854775807) ∧ (a3 = none → c3 = 0) ∧ 0 ≤ 200000 := ⟨rfl, hl3, hc3, by omega⟩
  have hy2 : BIn (w3.alloc (.cells #[.slice a rs.length c, .slice a3 0 c3] 22)) a3 [] := fun j hj => by cases hj
  generalize (w3.alloc (.cells #[.slice a rs.length c, .slice a3 0 c3] 22)) = w5 at *
  generalize w3.heap.size = vb at *
  clear hbin3 H3 HO3 H2 H1 hl3 hc3
  have HBW := Lib.hid (show Below w.heap.size w w5 from hbw5)
  have HY1 := Lib.hid (BIn.below HZ.out hbw5)
  have HY2 := Lib.hid hy2
  have HW := Lib.hid hw5
  have HR := Lib.hid hrow
  clear hbw5 hy2 hw5 hrow
  go_loopw [62] (fun j wr => ∃ m : Nat, m ≤ 2 ∧ j = .int .i64 m ∧ Below w5.heap.size w5 wr) (fun j _ => 2 - (intOf j).toNat)
  case atStart => exact ⟨0, by omega, rfl, Below.refl _ _⟩
  case round =>
    obtain ⟨m, hm, rfl, hbr⟩ := hrel
    have hrr := block_below hbr HR.out
    have d0 : wr.cell? ⟨vb, 0, none⟩ = some (.slice a rs.length c) := by simp [World.cell?, hrr]
    have d1 : wr.cell? ⟨vb, 1, none⟩ = some (.slice a3 0 c3) := by simp [World.cell?, hrr]
    have HBR := Lib.hid (HBW.out.trans (hbr.mono HBW.out.size))
    have HB5 := Lib.hid hbr
    have HZ1 := Lib.hid (HY1.out.below hbr)
    have HZ2 := Lib.hid (HY2.out.below hbr)
    clear hbr hrr
    rcases (show m = 0 ∨ m = 1 ∨ m = 2 by omega) with rfl | rfl | rfl
    case inr.inr =>
      go_wp2_with fail
      go_ret
      exact ⟨rfl, HBR.out⟩
    case inl =>
      go_wp2_with fail
      obtain ⟨rv, hrv⟩ : ∃ rv, rv = oread rs := ⟨_, rfl⟩
      have HZZ := HZ1
      refine (ReadO2_n (N := rs.length) hrv.symm rfl ⟨by omega, hl⟩ HC.out HZZ.out).mono ?_
      rintro e w6 ⟨sa6, sc6, rfl, hv6, hb6⟩
      obtain ⟨⟨rc, rs_, rn_, rg, rm, rl⟩, rn, re⟩ := rv
      dsimp only at hv6 ⊢
      have HV6 := Lib.hid hv6
      have HB6 := Lib.hid hb6
      have HRV := Lib.hid hrv
      clear hv6 hb6 hrv d0 d1
      have HA6 := Lib.hid ((Below.refl w6.heap.size w6).alloc (Nat.le_refl _) (.cells #[.int .u32 rc, .int .u32 rs_, .int .u16 rn_, .string rg, .string rm, .slice sa6 rl.length sc6] 29))
      go_wp2_with fail
      refine (ReadO1_n (N := rs.length) HRV.out.symm rfl ⟨by omega, hl⟩ HC.out ((HZZ.out.below HB6.out).below HA6.out)).mono ?_
      rintro e w7 ⟨sa7, sc7, rfl, hv7, hb7⟩
      dsimp only at hv7 ⊢
      have HV7 := Lib.hid hv7
      have HB7 := Lib.hid hb7
      obtain ⟨⟨⟨e0, e1, e2⟩, e3, e4, e5⟩, _, _⟩ := ok6.cells (show ok6 w7 w6.heap.size rc rs_ rn_ rg rm (.slice sa6 rl.length sc6) from block_below hb7 (block_alloc_at (w := w6) (.cells #[.int .u32 rc, .int .u32 rs_, .int .u16 rn_, .string rg, .string rm, .slice sa6 rl.length sc6] 29) rfl))
      have hq6 : w6.heap.size < w7.heap.size := World.block_lt_of_cell? _ _ e0
      clear hv7 hb7
      have HA7 := Lib.hid ((Below.refl w7.heap.size w7).alloc (Nat.le_refl _) (.cells #[.int .u32 rc, .int .u32 rs_, .int .u16 rn_, .string rg, .string rm, .slice sa7 rl.length sc7] 29))
      go_wp2_with fail
      refine (op_c rc rs_ rn_ rg rm rl _ rc rs_ rn_ rg rm rl _ _ _ _ (((HV6.out.below HA6.out).below HB7.out).below HA7.out) (HV7.out.below HA7.out)).mono ?_
      rintro e w8 ⟨rfl, hb8⟩
      rw [sameO_self]
      have HM8 := Lib.hid (((HB6.out.trans (HA6.out.mono HB6.out.size)).trans (HB7.out.mono (HB6.out.trans (HA6.out.mono HB6.out.size)).size)).trans ((HA7.out.trans (hb8.mono HA7.out.size)).mono ((HB6.out.trans (HA6.out.mono HB6.out.size)).trans (HB7.out.mono (HB6.out.trans (HA6.out.mono HB6.out.size)).size)).size))
      have HB8 := Lib.hid (HB5.out.trans (HM8.out.mono HB5.out.size))
      have HZ8 := Lib.hid (HZZ.out.below HM8.out)
      clear hb8 e0 e1 e2 e3 e4 e5 hq6
      go_wp2_with fail
      obtain ⟨rv, hrv⟩ : ∃ rv, rv = rread rs := ⟨_, rfl⟩
      refine (ReadP2_n (N := rs.length) hrv.symm rfl ⟨by omega, hl⟩ HC.out HZ8.out).mono ?_
      rintro e w9 ⟨sa9, sc9, rfl, hv9, hb9⟩
      obtain ⟨⟨qc, qs, qn, qe, ⟨qk, qi, qf, qx, ql⟩⟩, qq, qr⟩ := rv
      dsimp only [V.k_mk, V.i_mk, V.f_mk, V.s_mk, V.l_mk] at hv9 ⊢
      have HV9 := Lib.hid hv9
      have HB9 := Lib.hid hb9
      have HRW := Lib.hid hrv
      clear hv9 hb9 hrv
      have HA9 := Lib.hid ((Below.refl w9.heap.size w9).alloc (Nat.le_refl _) (.cells #[.int .u32 qc, .int .u32 qs, .int .u16 qn, .int .i64 qe, .int .i64 qk, .int .i64 qi, .float .f64 qf, .string qx, .slice sa9 ql.length sc9] 45))
      go_wp2_with fail
      refine (ReadP1_n (N := rs.length) HRW.out.symm rfl ⟨by omega, hl⟩ HC.out ((HZ8.out.below HB9.out).below HA9.out)).mono ?_
      rintro e w10 ⟨sa10, sc10, rfl, hv10, hb10⟩
      dsimp only [V.k_mk, V.i_mk, V.f_mk, V.s_mk, V.l_mk] at hv10 ⊢
      have HV10 := Lib.hid hv10
      have HB10 := Lib.hid hb10
      obtain ⟨⟨⟨e0, e1, e2⟩, e3, e4, e5, e6, e7, e8⟩, _, _⟩ := ok9.cells (show ok9 w10 w9.heap.size qc qs qn qe qk qi qf qx (.slice sa9 ql.length sc9) from block_below hb10 (block_alloc_at (w := w9) (.cells #[.int .u32 qc, .int .u32 qs, .int .u16 qn, .int .i64 qe, .int .i64 qk, .int .i64 qi, .float .f64 qf, .string qx, .slice sa9 ql.length sc9] 45) rfl))
      have hq9 : w9.heap.size < w10.heap.size := World.block_lt_of_cell? _ _ e0
      clear hv10 hb10
      have HA10 := Lib.hid ((Below.refl w10.heap.size w10).alloc (Nat.le_refl _) (.cells #[.int .u32 qc, .int .u32 qs, .int .u16 qn, .int .i64 qe, .int .i64 qk, .int .i64 qi, .float .f64 qf, .string qx, .slice sa10 ql.length sc10] 45))
      go_wp2_with fail
      refine (preply_c qc qs qn qe (V.mk qk qi qf qx ql) _ qc qs qn qe (V.mk qk qi qf qx ql) _ _ _ _ (((HV9.out.below HA9.out).below HB10.out).below HA10.out) (HV10.out.below HA10.out)).mono ?_
      rintro e w11 ⟨rfl, hb11⟩
      rw [sameP_self]
      have HM11 := Lib.hid (((HB9.out.trans (HA9.out.mono HB9.out.size)).trans (HB10.out.mono (HB9.out.trans (HA9.out.mono HB9.out.size)).size)).trans ((HA10.out.trans (hb11.mono HA10.out.size)).mono ((HB9.out.trans (HA9.out.mono HB9.out.size)).trans (HB10.out.mono (HB9.out.trans (HA9.out.mono HB9.out.size)).size)).size))
      have HB11 := Lib.hid (HB8.out.trans (HM11.out.mono HB8.out.size))
      clear hb11 e0 e1 e2 e3 e4 e5 e6 e7 e8 hq9
      go_wp2_with fail
      go_roundw
      case rel => exact ⟨1, by omega, by go_num, HB11.out⟩
      case measure => simp [intOf]
    case inr.inl =>
      go_wp2_with fail
      obtain ⟨rv, hrv⟩ : ∃ rv, rv = oread ([] : List Int) := ⟨_, rfl⟩
      have HZZ := HZ2
      refine (ReadO2_n (N := 0) hrv.symm HW.out.1 ⟨by have := HW.out.2.2.2; omega, HW.out.2.1⟩ HW.out.2.2.1 HZZ.out).mono ?_
      rintro e w6 ⟨sa6, sc6, rfl, hv6, hb6⟩
      obtain ⟨⟨rc, rs_, rn_, rg, rm, rl⟩, rn, re⟩ := rv
      dsimp only at hv6 ⊢
      have HV6 := Lib.hid hv6
      have HB6 := Lib.hid hb6
      have HRV := Lib.hid hrv
      clear hv6 hb6 hrv d0 d1
      have HA6 := Lib.hid ((Below.refl w6.heap.size w6).alloc (Nat.le_refl _) (.cells #[.int .u32 rc, .int .u32 rs_, .int .u16 rn_, .string rg, .string rm, .slice sa6 rl.length sc6] 29))
      go_wp2_with fail
      refine (ReadO1_n (N := 0) HRV.out.symm HW.out.1 ⟨by have := HW.out.2.2.2; omega, HW.out.2.1⟩ HW.out.2.2.1 ((HZZ.out.below HB6.out).below HA6.out)).mono ?_
      rintro e w7 ⟨sa7, sc7, rfl, hv7, hb7⟩
      dsimp only at hv7 ⊢
      have HV7 := Lib.hid hv7
      have HB7 := Lib.hid hb7
      obtain ⟨⟨⟨e0, e1, e2⟩, e3, e4, e5⟩, _, _⟩ := ok6.cells (show ok6 w7 w6.heap.size rc rs_ rn_ rg rm (.slice sa6 rl.length sc6) from block_below hb7 (block_alloc_at (w := w6) (.cells #[.int .u32 rc, .int .u32 rs_, .int .u16 rn_, .string rg, .string rm, .slice sa6 rl.length sc6] 29) rfl))
      have hq6 : w6.heap.size < w7.heap.size := World.block_lt_of_cell? _ _ e0
      clear hv7 hb7
      have HA7 := Lib.hid ((Below.refl w7.heap.size w7).alloc (Nat.le_refl _) (.cells #[.int .u32 rc, .int .u32 rs_, .int .u16 rn_, .string rg, .string rm, .slice sa7 rl.length sc7] 29))
      go_wp2_with fail
      refine (op_c rc rs_ rn_ rg rm rl _ rc rs_ rn_ rg rm rl _ _ _ _ (((HV6.out.below HA6.out).below HB7.out).below HA7.out) (HV7.out.below HA7.out)).mono ?_
      rintro e w8 ⟨rfl, hb8⟩
      rw [sameO_self]
      have HM8 := Lib.hid (((HB6.out.trans (HA6.out.mono HB6.out.size)).trans (HB7.out.mono (HB6.out.trans (HA6.out.mono HB6.out.size)).size)).trans ((HA7.out.trans (hb8.mono HA7.out.size)).mono ((HB6.out.trans (HA6.out.mono HB6.out.size)).trans (HB7.out.mono (HB6.out.trans (HA6.out.mono HB6.out.size)).size)).size))
      have HB8 := Lib.hid (HB5.out.trans (HM8.out.mono HB5.out.size))
      have HZ8 := Lib.hid (HZZ.out.below HM8.out)
      clear hb8 e0 e1 e2 e3 e4 e5 hq6
      go_wp2_with fail
      obtain ⟨rv, hrv⟩ : ∃ rv, rv = rread ([] : List Int) := ⟨_, rfl⟩
      refine (ReadP2_n (N := 0) hrv.symm HW.out.1 ⟨by have := HW.out.2.2.2; omega, HW.out.2.1⟩ HW.out.2.2.1 HZ8.out).mono ?_
      rintro e w9 ⟨sa9, sc9, rfl, hv9, hb9⟩
      obtain ⟨⟨qc, qs, qn, qe, ⟨qk, qi, qf, qx, ql⟩⟩, qq, qr⟩ := rv
      dsimp only [V.k_mk, V.i_mk, V.f_mk, V.s_mk, V.l_mk] at hv9 ⊢
      have HV9 := Lib.hid hv9
      have HB9 := Lib.hid hb9
      have HRW := Lib.hid hrv
      clear hv9 hb9 hrv
      have HA9 := Lib.hid ((Below.refl w9.heap.size w9).alloc (Nat.le_refl _) (.cells #[.int .u32 qc, .int .u32 qs, .int .u16 qn, .int .i64 qe, .int .i64 qk, .int .i64 qi, .float .f64 qf, .string qx, .slice sa9 ql.length sc9] 45))
      go_wp2_with fail
      refine (ReadP1_n (N := 0) HRW.out.symm HW.out.1 ⟨by have := HW.out.2.2.2; omega, HW.out.2.1⟩ HW.out.2.2.1 ((HZ8.out.below HB9.out).below HA9.out)).mono ?_
      rintro e w10 ⟨sa10, sc10, rfl, hv10, hb10⟩
      dsimp only [V.k_mk, V.i_mk, V.f_mk, V.s_mk, V.l_mk] at hv10 ⊢
      have HV10 := Lib.hid hv10
      have HB10 := Lib.hid hb10
      obtain ⟨⟨⟨e0, e1, e2⟩, e3, e4, e5, e6, e7, e8⟩, _, _⟩ := ok9.cells (show ok9 w10 w9.heap.size qc qs qn qe qk qi qf qx (.slice sa9 ql.length sc9) from block_below hb10 (block_alloc_at (w := w9) (.cells #[.int .u32 qc, .int .u32 qs, .int .u16 qn, .int .i64 qe, .int .i64 qk, .int .i64 qi, .float .f64 qf, .string qx, .slice sa9 ql.length sc9] 45) rfl))
      have hq9 : w9.heap.size < w10.heap.size := World.block_lt_of_cell? _ _ e0
      clear hv10 hb10
      have HA10 := Lib.hid ((Below.refl w10.heap.size w10).alloc (Nat.le_refl _) (.cells #[.int .u32 qc, .int .u32 qs, .int .u16 qn, .int .i64 qe, .int .i64 qk, .int .i64 qi, .float .f64 qf, .string qx, .slice sa10 ql.length sc10] 45))
      go_wp2_with fail
      refine (preply_c qc qs qn qe (V.mk qk qi qf qx ql) _ qc qs qn qe (V.mk qk qi qf qx ql) _ _ _ _ (((HV9.out.below HA9.out).below HB10.out).below HA10.out) (HV10.out.below HA10.out)).mono ?_
      rintro e w11 ⟨rfl, hb11⟩
      rw [sameP_self]
      have HM11 := Lib.hid (((HB9.out.trans (HA9.out.mono HB9.out.size)).trans (HB10.out.mono (HB9.out.trans (HA9.out.mono HB9.out.size)).size)).trans ((HA10.out.trans (hb11.mono HA10.out.size)).mono ((HB9.out.trans (HA9.out.mono HB9.out.size)).trans (HB10.out.mono (HB9.out.trans (HA9.out.mono HB9.out.size)).size)).size))
      have HB11 := Lib.hid (HB8.out.trans (HM11.out.mono HB8.out.size))
      clear hb11 e0 e1 e2 e3 e4 e5 e6 e7 e8 hq9
      go_wp2_with fail
      go_roundw
      case rel => exact ⟨2, by omega, by go_num, HB11.out⟩
      case measure => simp [intOf]

set_option maxHeartbeats 4000000 in
theorem callReads_ok (a : Option Addr) (c : Nat) (rs : List Int) (oc os_ on : Nat) (og om : ByteArray) (l : List V) (va : Option Addr) (vc : Nat) (at_ x : Int) (cut : Bool) (w : World)
    (hl : rs.length ≤ c ∧ c ≤ 9223372036854775807) (hc : a = none → c = 0) (hz : BIn w a rs) (hat : 0 ≤ at_ ∧ at_ ≤ 65535) (hx : 0 ≤ x ∧ x ≤ 255) (hi : oc < 4294967296 ∧ os_ < 4294967296 ∧ on < 65536) (hs : og.size ≤ 140737488351232 ∧ om.size ≤ 140737488351232)
    (hv : VIn (fun _ => True) w (VL l) (.slice va l.length vc)) (h0 : (rs.length : Int) ≤ 300) (h : (decide (og.size ≤ 100) && (decide (om.size ≤ 100) && V.lights l)) = true) (bs : List Int) (hput : oput [] oc os_ on og om l = (bs, 0)) (hby : Byt bs) (hbl : 0 < bs.length) (hbl2 : bs.length ≤ 200000) (hcut : cut = false) :
    Calls Try.prog 3 #[.slice a rs.length c, oval oc os_ on og om (.slice va l.length vc), .int .u16 at_, .int .u8 x, .bool cut] w fun e w' => e = .returned (.bool true) ∧ Below w.heap.size w w' := by
  subst hcut
  have HVP := Lib.hid hput
  have HBY := Lib.hid hby
  clear hput hby
  have HZ := Lib.hid hz
  have HV := Lib.hid (show VIn (fun b => b < w.heap.size) w (VL l) (.slice va l.length vc) from hv.keep (fun _ _ _ => rfl) (fun b _ hlt => hlt))
  have HC := Lib.hid hc
  have HAL := Lib.hid (one6.start0 (w0 := w) (c := oc) (s := os_) (n := on) (g := og) (m := om) (sl := .slice va l.length vc) (t := 29))
  clear hz hv hc
  go_enter Try.func3, Try.ntmps3
  go_wp2_with fail
  refine (known6_c _).mono ?_
  rintro e w1 ⟨rfl, hb1⟩
  have H1 := Lib.hid (one6.keep hb1 HAL.out)
  obtain ⟨⟨⟨c0, c1, c2'⟩, c3, c4, c5⟩, _, _⟩ := H1.out
  clear hb1
  go_wp2_with fail
  refine (lightop_c oc os_ on og om l _ w1 _ hs (HV.out.below H1.out.2.1)).mono ?_
  rintro e w2 ⟨rfl, hb2⟩
  have H2 := Lib.hid (one6.keep hb2 H1.out)
  clear hb2 c0 c1 c2' c3 c4 c5 HAL
  rw [h]
  obtain ⟨⟨⟨c0, c1, c2'⟩, c3', c4, c5⟩, _, _⟩ := H2.out
  go_wp2_with fail
  have hP1 := putOp1_c w.heap.size (.slice none 0 0) [] oc os_ on og om l _ w2 hi hs Bs.nil H2.out.2.1.size (by simp) (HV.out.below H2.out.2.1)
  rw [HVP.out] at hP1
  refine hP1.mono ?_
  rintro e w3 ⟨sl3, rfl, hap3⟩
  have H3 := Lib.hid (one6.keep (apn_below (Nat.le_refl _) hap3) H2.out)
  have HO3 := Lib.hid (hap3.ow ⟨[], World.ownsRow_nil _ _ _ _⟩)
  clear hap3 hP1 c0 c1 c2' c3' c4 c5
  obtain ⟨g, c3, rfl, hc3, hc3m⟩ := HO3.out.form hbl
  obtain ⟨N, hN⟩ : ∃ N, N = bs.length := ⟨_, rfl⟩
  rw [← hN] at hbl hbl2 hc3 ⊢
  have HN := Lib.hid hN
  obtain ⟨J, hmod⟩ : ∃ J : Nat, at_ % (N : Int) = (J : Int) := ⟨(at_ % (N : Int)).toNat, (Int.toNat_of_nonneg (Int.emod_nonneg _ (by omega))).symm⟩
  have hJ : J < N := by have := Int.emod_lt_of_pos at_ (show (0 : Int) < N by omega); omega
  have HG := Lib.hid (show w.heap.size ≤ g from HO3.out.cell.2.2.2.1)
  obtain ⟨hJb, hcJ, hfJ⟩ : ∃ hJb : J < bs.length, w3.cell? ⟨g, J, none⟩ = some (.int .u8 bs[J]) ∧ w3.frozen? ⟨g, J, none⟩ = false := by
    have e := HN.out
    have h1 : Own w3 w.heap.size (.slice (some ⟨g, 0, none⟩) N c3) bs := by rw [e]; exact HO3.out
    obtain ⟨_, h2, h3, _⟩ := h1.cell
    exact ⟨by omega, h2 J (by omega), h3 J⟩
  have hy0 := (HBY.out : Byt _) bs[J] (List.getElem_mem hJb)
  generalize hyJ : bs[J] = y0 at hcJ hy0
  obtain ⟨y1, hy1⟩ : ∃ y1, bits .xor .u8 y0 x = y1 := ⟨_, rfl⟩
  have hy1b := bits_u8 .xor y0 x ⟨_, rfl⟩
  rw [hy1] at hy1b
  clear hN hyJ
  go_wp2_with fail
  have hbw4 : Below w.heap.size w (w3.setCell ⟨g, J, none⟩ (.int .u8 y1)) := H3.out.2.1.setCell HG.out _
  have hst : BIn (w3.setCell ⟨g, J, none⟩ (.int .u8 y1)) (some ⟨g, 0, none⟩) (bs.set J y1) := Own.store HO3.out HBY.out J hJb hy1b
  have hsz : (w3.setCell ⟨g, J, none⟩ (.int .u8 y1)).heap.size = w3.heap.size := by simp [World.setCell]
  generalize w3.setCell ⟨g, J, none⟩ (.int .u8 y1) = w4 at *
  have hbw5 : Below w.heap.size w (w4.alloc (.cells #[.slice a rs.length c, .slice (some ⟨g, 0, none⟩) N c3] 22)) := hbw4.alloc hbw4.size _
  have hrow : (w4.alloc (.cells #[.slice a rs.length c, .slice (some ⟨g, 0, none⟩) N c3] 22)).heap[w3.heap.size]? = some (.cells #[.slice a rs.length c, .slice (some ⟨g, 0, none⟩) N c3] 22) := by rw [← hsz]; exact block_alloc_at _ rfl
  have hw5 : (bs.set J y1).length = N ∧ (N ≤ c3 ∧ c3 ≤ 9223372036854775807) ∧ ((some ⟨g, 0, none⟩ : Option Addr) = none → c3 = 0) ∧ N ≤ 200000 := ⟨by have := HN.out; simp <;> omega, ⟨by omega, hc3m⟩, (fun e => by cases e), by omega⟩
  have hy2 : BIn (w4.alloc (.cells #[.slice a rs.length c, .slice (some ⟨g, 0, none⟩) N c3] 22)) (some ⟨g, 0, none⟩) (bs.set J y1) := hst.below ((Below.refl _ _).alloc (Nat.le_refl _) _)
  generalize (w4.alloc (.cells #[.slice a rs.length c, .slice (some ⟨g, 0, none⟩) N c3] 22)) = w5 at *
  generalize w3.heap.size = vb at *
  generalize hzs3 : (bs.set J y1) = zs3 at *
  clear hst hbw4 hsz H3 HO3 H2 H1 hmod hcJ hfJ hJb hzs3
  generalize (some ⟨g, 0, none⟩ : Option Addr) = a3 at *
  have HBW := Lib.hid (show Below w.heap.size w w5 from hbw5)
  have HY1 := Lib.hid (BIn.below HZ.out hbw5)
  have HY2 := Lib.hid hy2
  have HW := Lib.hid hw5
  have HR := Lib.hid hrow
  clear hbw5 hy2 hw5 hrow
  go_loopw [62] (fun j wr => ∃ m : Nat, m ≤ 2 ∧ j = .int .i64 m ∧ Below w5.heap.size w5 wr) (fun j _ => 2 - (intOf j).toNat)
  case atStart => exact ⟨0, by omega, rfl, Below.refl _ _⟩
  case round =>
    obtain ⟨m, hm, rfl, hbr⟩ := hrel
    have hrr := block_below hbr HR.out
    have d0 : wr.cell? ⟨vb, 0, none⟩ = some (.slice a rs.length c) := by simp [World.cell?, hrr]
    have d1 : wr.cell? ⟨vb, 1, none⟩ = some (.slice a3 N c3) := by simp [World.cell?, hrr]
    have HBR := Lib.hid (HBW.out.trans (hbr.mono HBW.out.size))
    have HB5 := Lib.hid hbr
    have HZ1 := Lib.hid (HY1.out.below hbr)
    have HZ2 := Lib.hid (HY2.out.below hbr)
    clear hbr hrr
    rcases (show m = 0 ∨ m = 1 ∨ m = 2 by omega) with rfl | rfl | rfl
    case inr.inr =>
      go_wp2_with fail
      go_ret
      exact ⟨rfl, HBR.out⟩
    case inl =>
      go_wp2_with fail
      obtain ⟨rv, hrv⟩ : ∃ rv, rv = oread rs := ⟨_, rfl⟩
      have HZZ := HZ1
      refine (ReadO2_n (N := rs.length) hrv.symm rfl ⟨by omega, hl⟩ HC.out HZZ.out).mono ?_
      rintro e w6 ⟨sa6, sc6, rfl, hv6, hb6⟩
      obtain ⟨⟨rc, rs_, rn_, rg, rm, rl⟩, rn, re⟩ := rv
      dsimp only at hv6 ⊢
      have HV6 := Lib.hid hv6
      have HB6 := Lib.hid hb6
      have HRV := Lib.hid hrv
      clear hv6 hb6 hrv d0 d1
      have HA6 := Lib.hid ((Below.refl w6.heap.size w6).alloc (Nat.le_refl _) (.cells #[.int .u32 rc, .int .u32 rs_, .int .u16 rn_, .string rg, .string rm, .slice sa6 rl.length sc6] 29))
      go_wp2_with fail
      refine (ReadO1_n (N := rs.length) HRV.out.symm rfl ⟨by omega, hl⟩ HC.out ((HZZ.out.below HB6.out).below HA6.out)).mono ?_
      rintro e w7 ⟨sa7, sc7, rfl, hv7, hb7⟩
      dsimp only at hv7 ⊢
      have HV7 := Lib.hid hv7
      have HB7 := Lib.hid hb7
      obtain ⟨⟨⟨e0, e1, e2⟩, e3, e4, e5⟩, _, _⟩ := ok6.cells (show ok6 w7 w6.heap.size rc rs_ rn_ rg rm (.slice sa6 rl.length sc6) from block_below hb7 (block_alloc_at (w := w6) (.cells #[.int .u32 rc, .int .u32 rs_, .int .u16 rn_, .string rg, .string rm, .slice sa6 rl.length sc6] 29) rfl))
      have hq6 : w6.heap.size < w7.heap.size := World.block_lt_of_cell? _ _ e0
      clear hv7 hb7
      have HA7 := Lib.hid ((Below.refl w7.heap.size w7).alloc (Nat.le_refl _) (.cells #[.int .u32 rc, .int .u32 rs_, .int .u16 rn_, .string rg, .string rm, .slice sa7 rl.length sc7] 29))
      go_wp2_with fail
      refine (op_c rc rs_ rn_ rg rm rl _ rc rs_ rn_ rg rm rl _ _ _ _ (((HV6.out.below HA6.out).below HB7.out).below HA7.out) (HV7.out.below HA7.out)).mono ?_
      rintro e w8 ⟨rfl, hb8⟩
      rw [sameO_self]
      have HM8 := Lib.hid (((HB6.out.trans (HA6.out.mono HB6.out.size)).trans (HB7.out.mono (HB6.out.trans (HA6.out.mono HB6.out.size)).size)).trans ((HA7.out.trans (hb8.mono HA7.out.size)).mono ((HB6.out.trans (HA6.out.mono HB6.out.size)).trans (HB7.out.mono (HB6.out.trans (HA6.out.mono HB6.out.size)).size)).size))
      have HB8 := Lib.hid (HB5.out.trans (HM8.out.mono HB5.out.size))
      have HZ8 := Lib.hid (HZZ.out.below HM8.out)
      clear hb8 e0 e1 e2 e3 e4 e5 hq6
      go_wp2_with fail
      obtain ⟨rv, hrv⟩ : ∃ rv, rv = rread rs := ⟨_, rfl⟩
      refine (ReadP2_n (N := rs.length) hrv.symm rfl ⟨by omega, hl⟩ HC.out HZ8.out).mono ?_
      rintro e w9 ⟨sa9, sc9, rfl, hv9, hb9⟩
      obtain ⟨⟨qc, qs, qn, qe, ⟨qk, qi, qf, qx, ql⟩⟩, qq, qr⟩ := rv
      dsimp only [V.k_mk, V.i_mk, V.f_mk, V.s_mk, V.l_mk] at hv9 ⊢
      have HV9 := Lib.hid hv9
      have HB9 := Lib.hid hb9
      have HRW := Lib.hid hrv
      clear hv9 hb9 hrv
      have HA9 := Lib.hid ((Below.refl w9.heap.size w9).alloc (Nat.le_refl _) (.cells #[.int .u32 qc, .int .u32 qs, .int .u16 qn, .int .i64 qe, .int .i64 qk, .int .i64 qi, .float .f64 qf, .string qx, .slice sa9 ql.length sc9] 45))
      go_wp2_with fail
      refine (ReadP1_n (N := rs.length) HRW.out.symm rfl ⟨by omega, hl⟩ HC.out ((HZ8.out.below HB9.out).below HA9.out)).mono ?_
      rintro e w10 ⟨sa10, sc10, rfl, hv10, hb10⟩
      dsimp only [V.k_mk, V.i_mk, V.f_mk, V.s_mk, V.l_mk] at hv10 ⊢
      have HV10 := Lib.hid hv10
      have HB10 := Lib.hid hb10
      obtain ⟨⟨⟨e0, e1, e2⟩, e3, e4, e5, e6, e7, e8⟩, _, _⟩ := ok9.cells (show ok9 w10 w9.heap.size qc qs qn qe qk qi qf qx (.slice sa9 ql.length sc9) from block_below hb10 (block_alloc_at (w := w9) (.cells #[.int .u32 qc, .int .u32 qs, .int .u16 qn, .int .i64 qe, .int .i64 qk, .int .i64 qi, .float .f64 qf, .string qx, .slice sa9 ql.length sc9] 45) rfl))
      have hq9 : w9.heap.size < w10.heap.size := World.block_lt_of_cell? _ _ e0
      clear hv10 hb10
      have HA10 := Lib.hid ((Below.refl w10.heap.size w10).alloc (Nat.le_refl _) (.cells #[.int .u32 qc, .int .u32 qs, .int .u16 qn, .int .i64 qe, .int .i64 qk, .int .i64 qi, .float .f64 qf, .string qx, .slice sa10 ql.length sc10] 45))
      go_wp2_with fail
      refine (preply_c qc qs qn qe (V.mk qk qi qf qx ql) _ qc qs qn qe (V.mk qk qi qf qx ql) _ _ _ _ (((HV9.out.below HA9.out).below HB10.out).below HA10.out) (HV10.out.below HA10.out)).mono ?_
      rintro e w11 ⟨rfl, hb11⟩
      rw [sameP_self]
      have HM11 := Lib.hid (((HB9.out.trans (HA9.out.mono HB9.out.size)).trans (HB10.out.mono (HB9.out.trans (HA9.out.mono HB9.out.size)).size)).trans ((HA10.out.trans (hb11.mono HA10.out.size)).mono ((HB9.out.trans (HA9.out.mono HB9.out.size)).trans (HB10.out.mono (HB9.out.trans (HA9.out.mono HB9.out.size)).size)).size))
      have HB11 := Lib.hid (HB8.out.trans (HM11.out.mono HB8.out.size))
      clear hb11 e0 e1 e2 e3 e4 e5 e6 e7 e8 hq9
      go_wp2_with fail
      go_roundw
      case rel => exact ⟨1, by omega, by go_num, HB11.out⟩
      case measure => simp [intOf]
    case inr.inl =>
      go_wp2_with fail
      obtain ⟨rv, hrv⟩ : ∃ rv, rv = oread zs3 := ⟨_, rfl⟩
      have HZZ := HZ2
      refine (ReadO2_n (N := N) hrv.symm HW.out.1 ⟨by have := HW.out.2.2.2; omega, HW.out.2.1⟩ HW.out.2.2.1 HZZ.out).mono ?_
      rintro e w6 ⟨sa6, sc6, rfl, hv6, hb6⟩
      obtain ⟨⟨rc, rs_, rn_, rg, rm, rl⟩, rn, re⟩ := rv
      dsimp only at hv6 ⊢
      have HV6 := Lib.hid hv6
      have HB6 := Lib.hid hb6
      have HRV := Lib.hid hrv
      clear hv6 hb6 hrv d0 d1
      have HA6 := Lib.hid ((Below.refl w6.heap.size w6).alloc (Nat.le_refl _) (.cells #[.int .u32 rc, .int .u32 rs_, .int .u16 rn_, .string rg, .string rm, .slice sa6 rl.length sc6] 29))
      go_wp2_with fail
      refine (ReadO1_n (N := N) HRV.out.symm HW.out.1 ⟨by have := HW.out.2.2.2; omega, HW.out.2.1⟩ HW.out.2.2.1 ((HZZ.out.below HB6.out).below HA6.out)).mono ?_
      rintro e w7 ⟨sa7, sc7, rfl, hv7, hb7⟩
      dsimp only at hv7 ⊢
      have HV7 := Lib.hid hv7
      have HB7 := Lib.hid hb7
      obtain ⟨⟨⟨e0, e1, e2⟩, e3, e4, e5⟩, _, _⟩ := ok6.cells (show ok6 w7 w6.heap.size rc rs_ rn_ rg rm (.slice sa6 rl.length sc6) from block_below hb7 (block_alloc_at (w := w6) (.cells #[.int .u32 rc, .int .u32 rs_, .int .u16 rn_, .string rg, .string rm, .slice sa6 rl.length sc6] 29) rfl))
      have hq6 : w6.heap.size < w7.heap.size := World.block_lt_of_cell? _ _ e0
      clear hv7 hb7
      have HA7 := Lib.hid ((Below.refl w7.heap.size w7).alloc (Nat.le_refl _) (.cells #[.int .u32 rc, .int .u32 rs_, .int .u16 rn_, .string rg, .string rm, .slice sa7 rl.length sc7] 29))
      go_wp2_with fail
      refine (op_c rc rs_ rn_ rg rm rl _ rc rs_ rn_ rg rm rl _ _ _ _ (((HV6.out.below HA6.out).below HB7.out).below HA7.out) (HV7.out.below HA7.out)).mono ?_
      rintro e w8 ⟨rfl, hb8⟩
      rw [sameO_self]
      have HM8 := Lib.hid (((HB6.out.trans (HA6.out.mono HB6.out.size)).trans (HB7.out.mono (HB6.out.trans (HA6.out.mono HB6.out.size)).size)).trans ((HA7.out.trans (hb8.mono HA7.out.size)).mono ((HB6.out.trans (HA6.out.mono HB6.out.size)).trans (HB7.out.mono (HB6.out.trans (HA6.out.mono HB6.out.size)).size)).size))
      have HB8 := Lib.hid (HB5.out.trans (HM8.out.mono HB5.out.size))
      have HZ8 := Lib.hid (HZZ.out.below HM8.out)
      clear hb8 e0 e1 e2 e3 e4 e5 hq6
      go_wp2_with fail
      obtain ⟨rv, hrv⟩ : ∃ rv, rv = rread zs3 := ⟨_, rfl⟩
      refine (ReadP2_n (N := N) hrv.symm HW.out.1 ⟨by have := HW.out.2.2.2; omega, HW.out.2.1⟩ HW.out.2.2.1 HZ8.out).mono ?_
      rintro e w9 ⟨sa9, sc9, rfl, hv9, hb9⟩
      obtain ⟨⟨qc, qs, qn, qe, ⟨qk, qi, qf, qx, ql⟩⟩, qq, qr⟩ := rv
      dsimp only [V.k_mk, V.i_mk, V.f_mk, V.s_mk, V.l_mk] at hv9 ⊢
      have HV9 := Lib.hid hv9
      have HB9 := Lib.hid hb9
      have HRW := Lib.hid hrv
      clear hv9 hb9 hrv
      have HA9 := Lib.hid ((Below.refl w9.heap.size w9).alloc (Nat.le_refl _) (.cells #[.int .u32 qc, .int .u32 qs, .int .u16 qn, .int .i64 qe, .int .i64 qk, .int .i64 qi, .float .f64 qf, .string qx, .slice sa9 ql.length sc9] 45))
      go_wp2_with fail
      refine (ReadP1_n (N := N) HRW.out.symm HW.out.1 ⟨by have := HW.out.2.2.2; omega, HW.out.2.1⟩ HW.out.2.2.1 ((HZ8.out.below HB9.out).below HA9.out)).mono ?_
      rintro e w10 ⟨sa10, sc10, rfl, hv10, hb10⟩
      dsimp only [V.k_mk, V.i_mk, V.f_mk, V.s_mk, V.l_mk] at hv10 ⊢
      have HV10 := Lib.hid hv10
      have HB10 := Lib.hid hb10
      obtain ⟨⟨⟨e0, e1, e2⟩, e3, e4, e5, e6, e7, e8⟩, _, _⟩ := ok9.cells (show ok9 w10 w9.heap.size qc qs qn qe qk qi qf qx (.slice sa9 ql.length sc9) from block_below hb10 (block_alloc_at (w := w9) (.cells #[.int .u32 qc, .int .u32 qs, .int .u16 qn, .int .i64 qe, .int .i64 qk, .int .i64 qi, .float .f64 qf, .string qx, .slice sa9 ql.length sc9] 45) rfl))
      have hq9 : w9.heap.size < w10.heap.size := World.block_lt_of_cell? _ _ e0
      clear hv10 hb10
      have HA10 := Lib.hid ((Below.refl w10.heap.size w10).alloc (Nat.le_refl _) (.cells #[.int .u32 qc, .int .u32 qs, .int .u16 qn, .int .i64 qe, .int .i64 qk, .int .i64 qi, .float .f64 qf, .string qx, .slice sa10 ql.length sc10] 45))
      go_wp2_with fail
      refine (preply_c qc qs qn qe (V.mk qk qi qf qx ql) _ qc qs qn qe (V.mk qk qi qf qx ql) _ _ _ _ (((HV9.out.below HA9.out).below HB10.out).below HA10.out) (HV10.out.below HA10.out)).mono ?_
      rintro e w11 ⟨rfl, hb11⟩
      rw [sameP_self]
      have HM11 := Lib.hid (((HB9.out.trans (HA9.out.mono HB9.out.size)).trans (HB10.out.mono (HB9.out.trans (HA9.out.mono HB9.out.size)).size)).trans ((HA10.out.trans (hb11.mono HA10.out.size)).mono ((HB9.out.trans (HA9.out.mono HB9.out.size)).trans (HB10.out.mono (HB9.out.trans (HA9.out.mono HB9.out.size)).size)).size))
      have HB11 := Lib.hid (HB8.out.trans (HM11.out.mono HB8.out.size))
      clear hb11 e0 e1 e2 e3 e4 e5 e6 e7 e8 hq9
      go_wp2_with fail
      go_roundw
      case rel => exact ⟨2, by omega, by go_num, HB11.out⟩
      case measure => simp [intOf]

set_option maxHeartbeats 4000000 in
theorem callReads_cut (a : Option Addr) (c : Nat) (rs : List Int) (oc os_ on : Nat) (og om : ByteArray) (l : List V) (va : Option Addr) (vc : Nat) (at_ x : Int) (cut : Bool) (w : World)
    (hl : rs.length ≤ c ∧ c ≤ 9223372036854775807) (hc : a = none → c = 0) (hz : BIn w a rs) (hat : 0 ≤ at_ ∧ at_ ≤ 65535) (hx : 0 ≤ x ∧ x ≤ 255) (hi : oc < 4294967296 ∧ os_ < 4294967296 ∧ on < 65536) (hs : og.size ≤ 140737488351232 ∧ om.size ≤ 140737488351232)
    (hv : VIn (fun _ => True) w (VL l) (.slice va l.length vc)) (h0 : (rs.length : Int) ≤ 300) (h : (decide (og.size ≤ 100) && (decide (om.size ≤ 100) && V.lights l)) = true) (bs : List Int) (hput : oput [] oc os_ on og om l = (bs, 0)) (hby : Byt bs) (hbl : 0 < bs.length) (hbl2 : bs.length ≤ 200000) (hcut : cut = true) :
    Calls Try.prog 3 #[.slice a rs.length c, oval oc os_ on og om (.slice va l.length vc), .int .u16 at_, .int .u8 x, .bool cut] w fun e w' => e = .returned (.bool true) ∧ Below w.heap.size w w' := by
  subst hcut
  have HVP := Lib.hid hput
  have HBY := Lib.hid hby
  clear hput hby
  have HZ := Lib.hid hz
  have HV := Lib.hid (show VIn (fun b => b < w.heap.size) w (VL l) (.slice va l.length vc) from hv.keep (fun _ _ _ => rfl) (fun b _ hlt => hlt))
  have HC := Lib.hid hc
  have HAL := Lib.hid (one6.start0 (w0 := w) (c := oc) (s := os_) (n := on) (g := og) (m := om) (sl := .slice va l.length vc) (t := 29))
  clear hz hv hc
  go_enter Try.func3, Try.ntmps3
  go_wp2_with fail
  refine (known6_c _).mono ?_
  rintro e w1 ⟨rfl, hb1⟩
  have H1 := Lib.hid (one6.keep hb1 HAL.out)
  obtain ⟨⟨⟨c0, c1, c2'⟩, c3, c4, c5⟩, _, _⟩ := H1.out
  clear hb1
  go_wp2_with fail
  refine (lightop_c oc os_ on og om l _ w1 _ hs (HV.out.below H1.out.2.1)).mono ?_
  rintro e w2 ⟨rfl, hb2⟩
  have H2 := Lib.hid (one6.keep hb2 H1.out)
  clear hb2 c0 c1 c2' c3 c4 c5 HAL
  rw [h]
  obtain ⟨⟨⟨c0, c1, c2'⟩, c3', c4, c5⟩, _, _⟩ := H2.out
  go_wp2_with fail
  have hP1 := putOp1_c w.heap.size (.slice none 0 0) [] oc os_ on og om l _ w2 hi hs Bs.nil H2.out.2.1.size (by simp) (HV.out.below H2.out.2.1)
  rw [HVP.out] at hP1
  refine hP1.mono ?_
  rintro e w3 ⟨sl3, rfl, hap3⟩
  have H3 := Lib.hid (one6.keep (apn_below (Nat.le_refl _) hap3) H2.out)
  have HO3 := Lib.hid (hap3.ow ⟨[], World.ownsRow_nil _ _ _ _⟩)
  clear hap3 hP1 c0 c1 c2' c3' c4 c5
  obtain ⟨g, c3, rfl, hc3, hc3m⟩ := HO3.out.form hbl
  obtain ⟨N, hN⟩ : ∃ N, N = bs.length := ⟨_, rfl⟩
  rw [← hN] at hbl hbl2 hc3 ⊢
  have HN := Lib.hid hN
  obtain ⟨J, hmod⟩ : ∃ J : Nat, at_ % (N : Int) = (J : Int) := ⟨(at_ % (N : Int)).toNat, (Int.toNat_of_nonneg (Int.emod_nonneg _ (by omega))).symm⟩
  have hJ : J < N := by have := Int.emod_lt_of_pos at_ (show (0 : Int) < N by omega); omega
  have HG := Lib.hid (show w.heap.size ≤ g from HO3.out.cell.2.2.2.1)
  obtain ⟨hJb, hcJ, hfJ⟩ : ∃ hJb : J < bs.length, w3.cell? ⟨g, J, none⟩ = some (.int .u8 bs[J]) ∧ w3.frozen? ⟨g, J, none⟩ = false := by
    have e := HN.out
    have h1 : Own w3 w.heap.size (.slice (some ⟨g, 0, none⟩) N c3) bs := by rw [e]; exact HO3.out
    obtain ⟨_, h2, h3, _⟩ := h1.cell
    exact ⟨by omega, h2 J (by omega), h3 J⟩
  have hy0 := (HBY.out : Byt _) bs[J] (List.getElem_mem hJb)
  generalize hyJ : bs[J] = y0 at hcJ hy0
  obtain ⟨y1, hy1⟩ : ∃ y1, bits .xor .u8 y0 x = y1 := ⟨_, rfl⟩
  have hy1b := bits_u8 .xor y0 x ⟨_, rfl⟩
  rw [hy1] at hy1b
  clear hN hyJ
  go_wp2_with fail
  have hbw4 : Below w.heap.size w (w3.setCell ⟨g, J, none⟩ (.int .u8 y1)) := H3.out.2.1.setCell HG.out _
  have hst : BIn (w3.setCell ⟨g, J, none⟩ (.int .u8 y1)) (some ⟨g, 0, none⟩) ((bs.set J y1).take J) := (Own.store HO3.out HBY.out J hJb hy1b).take J
  have hsz : (w3.setCell ⟨g, J, none⟩ (.int .u8 y1)).heap.size = w3.heap.size := by simp [World.setCell]
  generalize w3.setCell ⟨g, J, none⟩ (.int .u8 y1) = w4 at *
  have hbw5 : Below w.heap.size w (w4.alloc (.cells #[.slice a rs.length c, .slice (some ⟨g, 0, none⟩) J c3] 22)) := hbw4.alloc hbw4.size _
  have hrow : (w4.alloc (.cells #[.slice a rs.length c, .slice (some ⟨g, 0, none⟩) J c3] 22)).heap[w3.heap.size]? = some (.cells #[.slice a rs.length c, .slice (some ⟨g, 0, none⟩) J c3] 22) := by rw [← hsz]; exact block_alloc_at _ rfl
  have hw5 : ((bs.set J y1).take J).length = J ∧ (J ≤ c3 ∧ c3 ≤ 9223372036854775807) ∧ ((some ⟨g, 0, none⟩ : Option Addr) = none → c3 = 0) ∧ J ≤ 200000 := ⟨by have := HN.out; simp <;> omega, ⟨by omega, hc3m⟩, (fun e => by cases e), by omega⟩
  have hy2 : BIn (w4.alloc (.cells #[.slice a rs.length c, .slice (some ⟨g, 0, none⟩) J c3] 22)) (some ⟨g, 0, none⟩) ((bs.set J y1).take J) := hst.below ((Below.refl _ _).alloc (Nat.le_refl _) _)
  generalize (w4.alloc (.cells #[.slice a rs.length c, .slice (some ⟨g, 0, none⟩) J c3] 22)) = w5 at *
  generalize w3.heap.size = vb at *
  generalize hzs3 : ((bs.set J y1).take J) = zs3 at *
  clear hst hbw4 hsz H3 HO3 H2 H1 hmod hcJ hfJ hJb hzs3
  generalize (some ⟨g, 0, none⟩ : Option Addr) = a3 at *
  have HBW := Lib.hid (show Below w.heap.size w w5 from hbw5)
  have HY1 := Lib.hid (BIn.below HZ.out hbw5)
  have HY2 := Lib.hid hy2
  have HW := Lib.hid hw5
  have HR := Lib.hid hrow
  clear hbw5 hy2 hw5 hrow
  go_loopw [62] (fun j wr => ∃ m : Nat, m ≤ 2 ∧ j = .int .i64 m ∧ Below w5.heap.size w5 wr) (fun j _ => 2 - (intOf j).toNat)
  case atStart => exact ⟨0, by omega, rfl, Below.refl _ _⟩
  case round =>
    obtain ⟨m, hm, rfl, hbr⟩ := hrel
    have hrr := block_below hbr HR.out
    have d0 : wr.cell? ⟨vb, 0, none⟩ = some (.slice a rs.length c) := by simp [World.cell?, hrr]
    have d1 : wr.cell? ⟨vb, 1, none⟩ = some (.slice a3 J c3) := by simp [World.cell?, hrr]
    have HBR := Lib.hid (HBW.out.trans (hbr.mono HBW.out.size))
    have HB5 := Lib.hid hbr
    have HZ1 := Lib.hid (HY1.out.below hbr)
    have HZ2 := Lib.hid (HY2.out.below hbr)
    clear hbr hrr
    rcases (show m = 0 ∨ m = 1 ∨ m = 2 by omega) with rfl | rfl | rfl
    case inr.inr =>
      go_wp2_with fail
      go_ret
      exact ⟨rfl, HBR.out⟩
    case inl =>
      go_wp2_with fail
      obtain ⟨rv, hrv⟩ : ∃ rv, rv = oread rs := ⟨_, rfl⟩
      have HZZ := HZ1
      refine (ReadO2_n (N := rs.length) hrv.symm rfl ⟨by omega, hl⟩ HC.out HZZ.out).mono ?_
      rintro e w6 ⟨sa6, sc6, rfl, hv6, hb6⟩
      obtain ⟨⟨rc, rs_, rn_, rg, rm, rl⟩, rn, re⟩ := rv
      dsimp only at hv6 ⊢
      have HV6 := Lib.hid hv6
      have HB6 := Lib.hid hb6
      have HRV := Lib.hid hrv
      clear hv6 hb6 hrv d0 d1
      have HA6 := Lib.hid ((Below.refl w6.heap.size w6).alloc (Nat.le_refl _) (.cells #[.int .u32 rc, .int .u32 rs_, .int .u16 rn_, .string rg, .string rm, .slice sa6 rl.length sc6] 29))
      go_wp2_with fail
      refine (ReadO1_n (N := rs.length) HRV.out.symm rfl ⟨by omega, hl⟩ HC.out ((HZZ.out.below HB6.out).below HA6.out)).mono ?_
      rintro e w7 ⟨sa7, sc7, rfl, hv7, hb7⟩
      dsimp only at hv7 ⊢
      have HV7 := Lib.hid hv7
      have HB7 := Lib.hid hb7
      obtain ⟨⟨⟨e0, e1, e2⟩, e3, e4, e5⟩, _, _⟩ := ok6.cells (show ok6 w7 w6.heap.size rc rs_ rn_ rg rm (.slice sa6 rl.length sc6) from block_below hb7 (block_alloc_at (w := w6) (.cells #[.int .u32 rc, .int .u32 rs_, .int .u16 rn_, .string rg, .string rm, .slice sa6 rl.length sc6] 29) rfl))
      have hq6 : w6.heap.size < w7.heap.size := World.block_lt_of_cell? _ _ e0
      clear hv7 hb7
      have HA7 := Lib.hid ((Below.refl w7.heap.size w7).alloc (Nat.le_refl _) (.cells #[.int .u32 rc, .int .u32 rs_, .int .u16 rn_, .string rg, .string rm, .slice sa7 rl.length sc7] 29))
      go_wp2_with fail
      refine (op_c rc rs_ rn_ rg rm rl _ rc rs_ rn_ rg rm rl _ _ _ _ (((HV6.out.below HA6.out).below HB7.out).below HA7.out) (HV7.out.below HA7.out)).mono ?_
      rintro e w8 ⟨rfl, hb8⟩
      rw [sameO_self]
      have HM8 := Lib.hid (((HB6.out.trans (HA6.out.mono HB6.out.size)).trans (HB7.out.mono (HB6.out.trans (HA6.out.mono HB6.out.size)).size)).trans ((HA7.out.trans (hb8.mono HA7.out.size)).mono ((HB6.out.trans (HA6.out.mono HB6.out.size)).trans (HB7.out.mono (HB6.out.trans (HA6.out.mono HB6.out.size)).size)).size))
      have HB8 := Lib.hid (HB5.out.trans (HM8.out.mono HB5.out.size))
      have HZ8 := Lib.hid (HZZ.out.below HM8.out)
      clear hb8 e0 e1 e2 e3 e4 e5 hq6
      go_wp2_with fail
      obtain ⟨rv, hrv⟩ : ∃ rv, rv = rread rs := ⟨_, rfl⟩
      refine (ReadP2_n (N := rs.length) hrv.symm rfl ⟨by omega, hl⟩ HC.out HZ8.out).mono ?_
      rintro e w9 ⟨sa9, sc9, rfl, hv9, hb9⟩
      obtain ⟨⟨qc, qs, qn, qe, ⟨qk, qi, qf, qx, ql⟩⟩, qq, qr⟩ := rv
      dsimp only [V.k_mk, V.i_mk, V.f_mk, V.s_mk, V.l_mk] at hv9 ⊢
      have HV9 := Lib.hid hv9
      have HB9 := Lib.hid hb9
      have HRW := Lib.hid hrv
      clear hv9 hb9 hrv
      have HA9 := Lib.hid ((Below.refl w9.heap.size w9).alloc (Nat.le_refl _) (.cells #[.int .u32 qc, .int .u32 qs, .int .u16 qn, .int .i64 qe, .int .i64 qk, .int .i64 qi, .float .f64 qf, .string qx, .slice sa9 ql.length sc9] 45))
      go_wp2_with fail
      refine (ReadP1_n (N := rs.length) HRW.out.symm rfl ⟨by omega, hl⟩ HC.out ((HZ8.out.below HB9.out).below HA9.out)).mono ?_
      rintro e w10 ⟨sa10, sc10, rfl, hv10, hb10⟩
      dsimp only [V.k_mk, V.i_mk, V.f_mk, V.s_mk, V.l_mk] at hv10 ⊢
      have HV10 := Lib.hid hv10
      have HB10 := Lib.hid hb10
      obtain ⟨⟨⟨e0, e1, e2⟩, e3, e4, e5, e6, e7, e8⟩, _, _⟩ := ok9.cells (show ok9 w10 w9.heap.size qc qs qn qe qk qi qf qx (.slice sa9 ql.length sc9) from block_below hb10 (block_alloc_at (w := w9) (.cells #[.int .u32 qc, .int .u32 qs, .int .u16 qn, .int .i64 qe, .int .i64 qk, .int .i64 qi, .float .f64 qf, .string qx, .slice sa9 ql.length sc9] 45) rfl))
      have hq9 : w9.heap.size < w10.heap.size := World.block_lt_of_cell? _ _ e0
      clear hv10 hb10
      have HA10 := Lib.hid ((Below.refl w10.heap.size w10).alloc (Nat.le_refl _) (.cells #[.int .u32 qc, .int .u32 qs, .int .u16 qn, .int .i64 qe, .int .i64 qk, .int .i64 qi, .float .f64 qf, .string qx, .slice sa10 ql.length sc10] 45))
      go_wp2_with fail
      refine (preply_c qc qs qn qe (V.mk qk qi qf qx ql) _ qc qs qn qe (V.mk qk qi qf qx ql) _ _ _ _ (((HV9.out.below HA9.out).below HB10.out).below HA10.out) (HV10.out.below HA10.out)).mono ?_
      rintro e w11 ⟨rfl, hb11⟩
      rw [sameP_self]
      have HM11 := Lib.hid (((HB9.out.trans (HA9.out.mono HB9.out.size)).trans (HB10.out.mono (HB9.out.trans (HA9.out.mono HB9.out.size)).size)).trans ((HA10.out.trans (hb11.mono HA10.out.size)).mono ((HB9.out.trans (HA9.out.mono HB9.out.size)).trans (HB10.out.mono (HB9.out.trans (HA9.out.mono HB9.out.size)).size)).size))
      have HB11 := Lib.hid (HB8.out.trans (HM11.out.mono HB8.out.size))
      clear hb11 e0 e1 e2 e3 e4 e5 e6 e7 e8 hq9
      go_wp2_with fail
      go_roundw
      case rel => exact ⟨1, by omega, by go_num, HB11.out⟩
      case measure => simp [intOf]
    case inr.inl =>
      go_wp2_with fail
      obtain ⟨rv, hrv⟩ : ∃ rv, rv = oread zs3 := ⟨_, rfl⟩
      have HZZ := HZ2
      refine (ReadO2_n (N := J) hrv.symm HW.out.1 ⟨by have := HW.out.2.2.2; omega, HW.out.2.1⟩ HW.out.2.2.1 HZZ.out).mono ?_
      rintro e w6 ⟨sa6, sc6, rfl, hv6, hb6⟩
      obtain ⟨⟨rc, rs_, rn_, rg, rm, rl⟩, rn, re⟩ := rv
      dsimp only at hv6 ⊢
      have HV6 := Lib.hid hv6
      have HB6 := Lib.hid hb6
      have HRV := Lib.hid hrv
      clear hv6 hb6 hrv d0 d1
      have HA6 := Lib.hid ((Below.refl w6.heap.size w6).alloc (Nat.le_refl _) (.cells #[.int .u32 rc, .int .u32 rs_, .int .u16 rn_, .string rg, .string rm, .slice sa6 rl.length sc6] 29))
      go_wp2_with fail
      refine (ReadO1_n (N := J) HRV.out.symm HW.out.1 ⟨by have := HW.out.2.2.2; omega, HW.out.2.1⟩ HW.out.2.2.1 ((HZZ.out.below HB6.out).below HA6.out)).mono ?_
      rintro e w7 ⟨sa7, sc7, rfl, hv7, hb7⟩
      dsimp only at hv7 ⊢
      have HV7 := Lib.hid hv7
      have HB7 := Lib.hid hb7
      obtain ⟨⟨⟨e0, e1, e2⟩, e3, e4, e5⟩, _, _⟩ := ok6.cells (show ok6 w7 w6.heap.size rc rs_ rn_ rg rm (.slice sa6 rl.length sc6) from block_below hb7 (block_alloc_at (w := w6) (.cells #[.int .u32 rc, .int .u32 rs_, .int .u16 rn_, .string rg, .string rm, .slice sa6 rl.length sc6] 29) rfl))
      have hq6 : w6.heap.size < w7.heap.size := World.block_lt_of_cell? _ _ e0
      clear hv7 hb7
      have HA7 := Lib.hid ((Below.refl w7.heap.size w7).alloc (Nat.le_refl _) (.cells #[.int .u32 rc, .int .u32 rs_, .int .u16 rn_, .string rg, .string rm, .slice sa7 rl.length sc7] 29))
      go_wp2_with fail
      refine (op_c rc rs_ rn_ rg rm rl _ rc rs_ rn_ rg rm rl _ _ _ _ (((HV6.out.below HA6.out).below HB7.out).below HA7.out) (HV7.out.below HA7.out)).mono ?_
      rintro e w8 ⟨rfl, hb8⟩
      rw [sameO_self]
      have HM8 := Lib.hid (((HB6.out.trans (HA6.out.mono HB6.out.size)).trans (HB7.out.mono (HB6.out.trans (HA6.out.mono HB6.out.size)).size)).trans ((HA7.out.trans (hb8.mono HA7.out.size)).mono ((HB6.out.trans (HA6.out.mono HB6.out.size)).trans (HB7.out.mono (HB6.out.trans (HA6.out.mono HB6.out.size)).size)).size))
      have HB8 := Lib.hid (HB5.out.trans (HM8.out.mono HB5.out.size))
      have HZ8 := Lib.hid (HZZ.out.below HM8.out)
      clear hb8 e0 e1 e2 e3 e4 e5 hq6
      go_wp2_with fail
      obtain ⟨rv, hrv⟩ : ∃ rv, rv = rread zs3 := ⟨_, rfl⟩
      refine (ReadP2_n (N := J) hrv.symm HW.out.1 ⟨by have := HW.out.2.2.2; omega, HW.out.2.1⟩ HW.out.2.2.1 HZ8.out).mono ?_
      rintro e w9 ⟨sa9, sc9, rfl, hv9, hb9⟩
      obtain ⟨⟨qc, qs, qn, qe, ⟨qk, qi, qf, qx, ql⟩⟩, qq, qr⟩ := rv
      dsimp only [V.k_mk, V.i_mk, V.f_mk, V.s_mk, V.l_mk] at hv9 ⊢
      have HV9 := Lib.hid hv9
      have HB9 := Lib.hid hb9
      have HRW := Lib.hid hrv
      clear hv9 hb9 hrv
      have HA9 := Lib.hid ((Below.refl w9.heap.size w9).alloc (Nat.le_refl _) (.cells #[.int .u32 qc, .int .u32 qs, .int .u16 qn, .int .i64 qe, .int .i64 qk, .int .i64 qi, .float .f64 qf, .string qx, .slice sa9 ql.length sc9] 45))
      go_wp2_with fail
      refine (ReadP1_n (N := J) HRW.out.symm HW.out.1 ⟨by have := HW.out.2.2.2; omega, HW.out.2.1⟩ HW.out.2.2.1 ((HZ8.out.below HB9.out).below HA9.out)).mono ?_
      rintro e w10 ⟨sa10, sc10, rfl, hv10, hb10⟩
      dsimp only [V.k_mk, V.i_mk, V.f_mk, V.s_mk, V.l_mk] at hv10 ⊢
      have HV10 := Lib.hid hv10
      have HB10 := Lib.hid hb10
      obtain ⟨⟨⟨e0, e1, e2⟩, e3, e4, e5, e6, e7, e8⟩, _, _⟩ := ok9.cells (show ok9 w10 w9.heap.size qc qs qn qe qk qi qf qx (.slice sa9 ql.length sc9) from block_below hb10 (block_alloc_at (w := w9) (.cells #[.int .u32 qc, .int .u32 qs, .int .u16 qn, .int .i64 qe, .int .i64 qk, .int .i64 qi, .float .f64 qf, .string qx, .slice sa9 ql.length sc9] 45) rfl))
      have hq9 : w9.heap.size < w10.heap.size := World.block_lt_of_cell? _ _ e0
      clear hv10 hb10
      have HA10 := Lib.hid ((Below.refl w10.heap.size w10).alloc (Nat.le_refl _) (.cells #[.int .u32 qc, .int .u32 qs, .int .u16 qn, .int .i64 qe, .int .i64 qk, .int .i64 qi, .float .f64 qf, .string qx, .slice sa10 ql.length sc10] 45))
      go_wp2_with fail
      refine (preply_c qc qs qn qe (V.mk qk qi qf qx ql) _ qc qs qn qe (V.mk qk qi qf qx ql) _ _ _ _ (((HV9.out.below HA9.out).below HB10.out).below HA10.out) (HV10.out.below HA10.out)).mono ?_
      rintro e w11 ⟨rfl, hb11⟩
      rw [sameP_self]
      have HM11 := Lib.hid (((HB9.out.trans (HA9.out.mono HB9.out.size)).trans (HB10.out.mono (HB9.out.trans (HA9.out.mono HB9.out.size)).size)).trans ((HA10.out.trans (hb11.mono HA10.out.size)).mono ((HB9.out.trans (HA9.out.mono HB9.out.size)).trans (HB10.out.mono (HB9.out.trans (HA9.out.mono HB9.out.size)).size)).size))
      have HB11 := Lib.hid (HB8.out.trans (HM11.out.mono HB8.out.size))
      clear hb11 e0 e1 e2 e3 e4 e5 e6 e7 e8 hq9
      go_wp2_with fail
      go_roundw
      case rel => exact ⟨2, by omega, by go_num, HB11.out⟩
      case measure => simp [intOf]

theorem callReads_c (a : Option Addr) (c : Nat) (rs : List Int) (oc os_ on : Nat) (og om : ByteArray) (l : List V) (va : Option Addr) (vc : Nat) (at_ x : Int) (cut : Bool) (w : World)
    (hl : rs.length ≤ c ∧ c ≤ 9223372036854775807) (hc : a = none → c = 0) (hz : BIn w a rs) (hat : 0 ≤ at_ ∧ at_ ≤ 65535) (hx : 0 ≤ x ∧ x ≤ 255) (hi : oc < 4294967296 ∧ os_ < 4294967296 ∧ on < 65536) (hs : og.size ≤ 140737488351232 ∧ om.size ≤ 140737488351232)
    (hv : VIn (fun _ => True) w (VL l) (.slice va l.length vc)) :
    Calls Try.prog 3 #[.slice a rs.length c, oval oc os_ on og om (.slice va l.length vc), .int .u16 at_, .int .u8 x, .bool cut] w fun e w' => e = .returned (.bool true) ∧ Below w.heap.size w w' := by
  by_cases h0 : (rs.length : Int) ≤ 300
  · cases h : (decide (og.size ≤ 100) && (decide (om.size ≤ 100) && V.lights l)) with
    | false => exact callReads_light a c rs oc os_ on og om l va vc at_ x cut w hl hc hz hat hx hi hs hv h0 h
    | true =>
      by_cases hbig : 16 < l.length ∨ 32 < og.size ∨ 32 < om.size
      · exact callReads_err a c rs oc os_ on og om l va vc at_ x cut w hl hc hz hat hx hi hs hv h0 h _ (oput_big hbig)
      · by_cases hk : chk l = 0
        · have hput : oput [] oc os_ on og om l = (obytes oc os_ on og om l, 0) := by unfold oput; rw [if_neg hbig, if_pos hk]; rfl
          have hf := flatB_len hk
          have hlen : (obytes oc os_ on og om l).length = 10 + (2 + og.size) + (2 + om.size) + 1 + (l.flatMap V.bytes).length := by
            simp only [obytes, List.length_append, List.length_cons, txtP_length, idB_length]; omega
          have hby : Byt (obytes oc os_ on og om l) := by
            unfold obytes idB txtP
            exact (((beB_byt _ _).append (beB_byt _ _)).append (beB_byt _ _)).append (((beB_byt _ _).append (strI_byte _)).append (((beB_byt _ _).append (strI_byte _)).append ((Byt.one (z := (l.length : Int)) (by omega)).append (flatB_byt hk))))
          cases hcut : cut with
          | false => exact callReads_ok a c rs oc os_ on og om l va vc at_ x false w hl hc hz hat hx hi hs hv h0 h _ hput hby (by omega) (by omega) rfl
          | true => exact callReads_cut a c rs oc os_ on og om l va vc at_ x true w hl hc hz hat hx hi hs hv h0 h _ hput hby (by omega) (by omega) rfl
        · have hput : oput [] oc os_ on og om l = ([], chk l) := by unfold oput; rw [if_neg hbig, if_neg hk]
          exact callReads_err a c rs oc os_ on og om l va vc at_ x cut w hl hc hz hat hx hi hs hv h0 h _ hput
  · exact callReads_long a c rs oc os_ on og om l va vc at_ x cut w hl hc hz hat hx hi hs hv (by omega)
end Go.Proofs.Ytkhgbbloeeaceaa
