/- Values just alike, as the statements hold them against one another. -/
import Derived.Test.YtkhgbbloeeaceaaC
import Derived.BigQuiet
import Derived.Deep.QuietTactic
namespace Go.Proofs.Ytkhgbbloeeaceaa
open Go Go.RowKit
set_option maxRecDepth 16000
attribute [local go_sem ↓] run_store_float

mutual
/-- Just alike, field by field; of floats the canonical bits. -/
def V.same : V → V → Bool
  | .mk k i f s l, t => k == t.k && (i == t.i && (canonN f == canonN t.f && (decide (s = t.s) && (l.length == t.l.length && V.sames l t.l))))
def V.sames : List V → List V → Bool
  | a :: xs, b :: ys => V.same a b && V.sames xs ys
  | _, _ => true
end
theorem V.same_mk (k i f s l t) : (V.mk k i f s l).same t = (k == t.k && (i == t.i && (canonN f == canonN t.f && (decide (s = t.s) && (l.length == t.l.length && V.sames l t.l))))) := by rw [V.same]
def V.sameTo (a b : List V) (m : Nat) : Prop := ∀ j, j < m → ∀ (ha : j < a.length) (hb : j < b.length), V.same a[j] b[j] = true
theorem V.sames_no : ∀ (a b : List V) (m : Nat) (ha : m < a.length) (hb : m < b.length), V.same a[m] b[m] = false → V.sames a b = false
  | [], _, _, ha, _, _ => by simp at ha
  | _ :: _, [], _, _, hb, _ => by simp at hb
  | x :: xs, y :: ys, 0, _, _, h => by simp only [List.getElem_cons_zero] at h; rw [V.sames, h]; rfl
  | x :: xs, y :: ys, m + 1, ha, hb, h => by
    simp only [List.getElem_cons_succ] at h
    rw [V.sames, V.sames_no xs ys m (by simpa using ha) (by simpa using hb) h, Bool.and_false]
theorem V.sames_yes : ∀ (a b : List V) (_ : a.length = b.length), V.sameTo a b a.length → V.sames a b = true
  | [], _, _, _ => by rw [V.sames]; intro a xs b ys h; cases h
  | _ :: _, [], h, _ => by simp at h
  | x :: xs, y :: ys, h, hs => by
    rw [V.sames, show V.same x y = true from hs 0 (by simp) (by simp) (by simp), V.sames_yes xs ys (by simpa using h) (fun j hj ha hb => by
      have := hs (j + 1) (by simpa using hj) (by simpa using ha) (by simpa using hb)
      simpa using this)]
    rfl
theorem V.sameTo_succ {a b : List V} {m : Nat} (h : V.sameTo a b m) (ha : m < a.length) (hb : m < b.length) (hx : V.same a[m] b[m] = true) : V.sameTo a b (m + 1) := by
  intro j hj h1 h2
  by_cases e : j = m
  · subst e; exact hx
  · exact h j (by omega) h1 h2
theorem V.same_self (t : V) : t.same t = true := by
  induction t using V.induct with
  | h k i f s l ih =>
  rw [V.same_mk]
  have : V.sames l l = true := V.sames_yes l l rfl (fun j hj ha _ => ih _ (List.getElem_mem ha))
  simp [this]

theorem toList_ne {s s2 : ByteArray} (h : s ≠ s2) : (s.toList == s2.toList) = false := by
  have : s.toList ≠ s2.toList := fun e => by
    rw [ByteArray.toList_eq, ByteArray.toList_eq] at e
    obtain ⟨⟨a⟩⟩ := s
    obtain ⟨⟨b⟩⟩ := s2
    simp at e
    subst e
    exact h rfl
  simpa using this

theorem two_start0 {w0 : World} {k i : Int} {f : Nat} {s : ByteArray} {sl : Value} {k2 i2 : Int} {f2 : Nat} {s2 : ByteArray} {sl2 : Value} {t t2} : two w0 ((w0.alloc (.cells #[.int .i64 k, .int .i64 i, .float .f64 f, .string s, sl] t)).alloc (.cells #[.int .i64 k2, .int .i64 i2, .float .f64 f2, .string s2, sl2] t2)) k i f s sl k2 i2 f2 s2 sl2 := by
  have e : (w0.alloc (.cells #[.int .i64 k, .int .i64 i, .float .f64 f, .string s, sl] t)).heap.size = w0.heap.size + 1 := by simp
  have b1 : Below (w0.alloc (.cells #[.int .i64 k, .int .i64 i, .float .f64 f, .string s, sl] t)).heap.size (w0.alloc (.cells #[.int .i64 k, .int .i64 i, .float .f64 f, .string s, sl] t)) ((w0.alloc (.cells #[.int .i64 k, .int .i64 i, .float .f64 f, .string s, sl] t)).alloc (.cells #[.int .i64 k2, .int .i64 i2, .float .f64 f2, .string s2, sl2] t2)) := (Below.refl _ _).alloc (Nat.le_refl _) _
  have h2 := at5.new (w := w0.alloc (.cells #[.int .i64 k, .int .i64 i, .float .f64 f, .string s, sl] t)) (k := k2) (i := i2) (f := f2) (s := s2) (sl := sl2) (t := t2)
  rw [e] at h2
  exact ⟨at5.new.keep b1, h2, ((Below.refl _ _).alloc (Nat.le_refl _) _).alloc (by simp) _, by simp⟩

def SameC (x : V) : Prop := ∀ (y : V) (w : World) (sx sy : Value) (D E : Nat → Prop), VIn D w x sx → VIn E w y sy →
  Calls Try.prog 45 #[.agg #[.int .i64 x.k, .int .i64 x.i, .float .f64 x.f, .string x.s, sx], .agg #[.int .i64 y.k, .int .i64 y.i, .float .f64 y.f, .string y.s, sy]] w
    fun e w' => e = .returned (.bool (x.same y)) ∧ Below w.heap.size w w'

theorem same_c (x : V) : SameC x := by
  induction x using V.induct with
  | h k i f s l ih =>
  intro y w sx sy D E hx hy
  obtain ⟨wk, wi, wf, ws, wl, hsx⟩ := hx.parts
  obtain ⟨k2, i2, f2, s2, l2⟩ := y
  obtain ⟨wk2, wi2, wf2, ws2, wl2, hsy⟩ := hy.parts
  generalize hr : (V.mk k i f s l).same (V.mk k2 i2 f2 s2 l2) = r
  rw [V.same_mk] at hr
  simp only [V.k_mk, V.i_mk, V.f_mk, V.s_mk, V.l_mk] at hr ⊢
  have HR := Lib.hid hr.symm
  clear hr
  have IH := Lib.hid ih
  clear ih wk wi wk2 wi2 wf ws wf2 ws2
  obtain ⟨a, c, rfl, hlc, hcm, _, ha⟩ := hsx
  obtain ⟨b, d, rfl, hld, hdm, _, hb⟩ := hsy
  have HA := Lib.hid ha
  have HBb := Lib.hid hb
  clear ha hb hx hy
  have HBB := Lib.hid (fun o o' => (((Below.refl w.heap.size w).alloc (Nat.le_refl _) o).alloc (by simp) o' : Below w.heap.size w ((w.alloc o).alloc o')))
  by_cases hk : k = k2
  · subst hk
    by_cases hi : i = i2
    · subst hi
      by_cases hf : canonN f = canonN f2
      · by_cases hs : s = s2
        · subst hs
          by_cases hl : l.length = l2.length
          · have hf1 : ((canonN f : Int) != (canonN f2 : Int)) = false := by simp [hf]
            have hl1 : ((l.length : Int) != (l2.length : Int)) = false := by simp [hl]
            have HF := Lib.hid hf
            have HLL := Lib.hid hl
            clear hf
            go_enter Try.func45, Try.ntmps45
            go_wp2_with fail
            go_quiet ((go_at_call 68; exact Calls.quiet_of_same ((bits1_c _ _).mono (fun e w' h => ⟨h.1, h.2.symm⟩))))
            have hS0 : two w (((w.alloc (.cells #[.int .i64 k, .int .i64 i, .float .f64 f, .string s, .slice a l2.length c] 43)).alloc (.cells #[.int .i64 k, .int .i64 i, .float .f64 f2, .string s, .slice b l2.length d] 43)).drewN nq) k i f s (.slice a l2.length c) k i f2 s (.slice b l2.length d) := two.keep (below_drewN (Below.refl _ _) nq) two_start0
            obtain ⟨⟨c0, c1, c2, c3, c4⟩, ⟨d0, d1, d2, d3, d4⟩, hbS, hzS⟩ := id hS0
            have HS0 := Lib.hid hS0
            clear hS0 hbS
            go_wp2_with fail
            go_loopw [5] (fun j wr => ∃ m : Nat, m ≤ l.length ∧ j = .int .i64 m ∧ V.sameTo l l2 m ∧ two w wr k i f s (.slice a l2.length c) k i f2 s (.slice b l2.length d)) (fun i _ => l.length - (intOf i).toNat)
            case atStart => exact ⟨0, by omega, rfl, fun j hj => by omega, HS0.out⟩
            case round =>
              obtain ⟨m, hm1, rfl, hlike, hS⟩ := hrel
              have HLK := Lib.hid hlike
              have HS := Lib.hid hS
              clear hlike c0 c1 c2 c3 c4 d0 d1 d2 d3 d4 hzS
              obtain ⟨⟨_, _, _, _, c4⟩, ⟨_, _, _, _, d4⟩, hbS, hzS⟩ := hS
              have hz0 : w.heap.size < wr.heap.size := by omega
              by_cases hlt : m < l.length
              · have hlt2 : m < l2.length := by omega
                obtain ⟨b1, o1, rfl, he1⟩ := HA.out.resolve_left (fun e => by simp [e] at hlt)
                have HE1 := Lib.hid (he1.below hbS)
                obtain ⟨b2, o2, rfl, he2⟩ := HBb.out.resolve_left (fun e => by simp [e] at hlt2)
                have HE2 := Lib.hid (he2.below hbS)
                clear he1 he2 hbS
                obtain ⟨hD, sa, sc, e0, e1, e2, e3, e4, hv⟩ := HE1.out.get hlt
                obtain ⟨hD2, sa2, sc2, f0, f1, f2, f3, f4, hv2⟩ := HE2.out.get hlt2
                have HV := Lib.hid hv
                have HV2 := Lib.hid hv2
                have hb1 : b1 < wr.heap.size := World.block_lt_of_cell? wr _ e0
                have hb2 : b2 < wr.heap.size := World.block_lt_of_cell? wr _ f0
                clear hv hv2
                cases hx : V.same l[m] l2[m]
                all_goals
                  have HX := Lib.hid hx
                  clear hx
                  go_wp2_with fail
                  go_region_held3 (fun w' => Held wr w') (first | assumption | exact Held.start | exact Held.keep hb5 (by assumption))
                    (first | (go_at_call 45; refine (IH.out _ (List.getElem_mem _) _ _ _ _ D E (HV.out.held (by assumption)) (HV2.out.held (by assumption))).mono ?_; rintro e w5 ⟨rfl, hb5⟩; rw [HX.out]))
                  have hS5 : Held wr w5 := by assumption
                  have HT := Lib.hid (two.keep hS5.2 HS.out)
                  clear hS5 hb5 hb1 hb2 e0 e1 e2 e3 e4 f0 f1 f2 f3 f4
                · go_wp2_with fail
                  go_ret
                  exact ⟨ret_bool (by rw [HR.out]; simp [HF.out, V.sames_no l l2 m hlt hlt2 HX.out]), HT.out.2.2.1⟩
                · go_wp2_with fail
                  go_roundw
                  case rel => exact ⟨m + 1, by omega, by go_num, V.sameTo_succ HLK.out hlt hlt2 HX.out, HT.out⟩
                  case measure => simp [intOf]; omega
              · have hm' : m = l.length := by omega
                go_wp2_with fail
                go_ret
                exact ⟨ret_bool (by rw [HR.out]; simp [HF.out, HLL.out, V.sames_yes l l2 HLL.out (hm' ▸ HLK.out)]), HS.out.2.2.1⟩
          · have hf1 : ((canonN f : Int) != (canonN f2 : Int)) = false := by simp [hf]
            have hl1 : ((l.length : Int) != (l2.length : Int)) = true := by simpa using fun e => hl (by omega)
            have HLL := Lib.hid hl
            clear hl hf
            go_enter Try.func45, Try.ntmps45
            go_wp2_with fail
            go_quiet ((go_at_call 68; exact Calls.quiet_of_same ((bits1_c _ _).mono (fun e w' h => ⟨h.1, h.2.symm⟩))))
            go_wp2_with fail
            go_ret
            exact ⟨ret_bool (by rw [HR.out]; simp [HLL.out]), below_drewN (HBB.out _ _) nq⟩
        · have hf1 : ((canonN f : Int) != (canonN f2 : Int)) = false := by simp [hf]
          have hs1 : (s.toList == s2.toList) = false := toList_ne hs
          have HLL := Lib.hid hs
          clear hs hf
          go_enter Try.func45, Try.ntmps45
          go_wp2_with fail
          go_quiet ((go_at_call 68; exact Calls.quiet_of_same ((bits1_c _ _).mono (fun e w' h => ⟨h.1, h.2.symm⟩))))
          go_wp2_with fail
          go_ret
          exact ⟨ret_bool (by rw [HR.out]; simp [HLL.out]), below_drewN (HBB.out _ _) nq⟩
      · have hf1 : ((canonN f : Int) != (canonN f2 : Int)) = true := by simpa using fun e => hf (by omega)
        have HLL := Lib.hid hf
        clear hf
        go_enter Try.func45, Try.ntmps45
        go_wp2_with fail
        go_quiet ((go_at_call 68; exact Calls.quiet_of_same ((bits1_c _ _).mono (fun e w' h => ⟨h.1, h.2.symm⟩))))
        go_wp2_with fail
        go_ret
        exact ⟨ret_bool (by rw [HR.out]; simp [HLL.out]), below_drewN (HBB.out _ _) nq⟩
    · have hi1 : (i != i2) = true := by simpa using hi
      have HLL := Lib.hid hi
      clear hi
      go_enter Try.func45, Try.ntmps45
      go_wp2_with fail
      go_quiet ((go_at_call 68; exact Calls.quiet_of_same ((bits1_c _ _).mono (fun e w' h => ⟨h.1, h.2.symm⟩))))
      go_wp2_with fail
      go_ret
      exact ⟨ret_bool (by rw [HR.out]; simp [HLL.out]), below_drewN (HBB.out _ _) nq⟩
  · have hk1 : (k != k2) = true := by simpa using hk
    have HLL := Lib.hid hk
    clear hk
    go_enter Try.func45, Try.ntmps45
    go_wp2_with fail
    go_quiet ((go_at_call 68; exact Calls.quiet_of_same ((bits1_c _ _).mono (fun e w' h => ⟨h.1, h.2.symm⟩))))
    go_wp2_with fail
    go_ret
    exact ⟨ret_bool (by rw [HR.out]; simp [HLL.out]), below_drewN (HBB.out _ _) nq⟩
end Go.Proofs.Ytkhgbbloeeaceaa
